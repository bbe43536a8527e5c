/- Entries of the error log: DecodeError, and both of the reference. Printed by genlogq.py. -/
import Derived.Test.YthnnopjakpjoeaaDoorLogN
import Derived.Test.YthnnopjakpjoeaaDoorLogR
import Derived.Test.YthnnopjakpjoeaaDoorRows2
import Derived.Deep.MidRow
namespace Go.Proofs.YthnnopjakpjoeaaDoor
open Go.RowKit Lg
set_option linter.unusedVariables false
set_option linter.unusedSimpArgs false
theorem rd_chg {w w' : World} {T : TypeId} {r d Y : Nat} {v : Value} {l : List (BitVec 8)} {n : Nat} (h : RdAt w T r d v l n) (c : Chg (fun b => b = Y) w w') (hY : r < Y) : RdAt w' T r d v l n :=
  ⟨c.blk h.blk (by omega), h.bytes.chg c (fun g o m k e hg => by have h1 := h.old ⟨g, o, none⟩ m k e; have h2 := h.le; simp only at h1; omega), h.small, h.old, h.le⟩
theorem byt_lt3 {w : World} {v : Value} {l : List (BitVec 8)} (h : BytesV w v l) (hl : 0 < l.length) : ∀ g o n c, v = .slice (some ⟨g, o, none⟩) n c → g < w.heap.size := by
  intro g o n c e
  obtain ⟨a, c', e2, -, -, -, hr⟩ := h
  rw [e] at e2
  injection e2 with e3 e4 e5
  subst e3
  exact hr.lt (by intro hn; have h9 := congrArg List.length hn; rw [by8_length, List.length_nil] at h9; omega)
theorem st_typ (s : BitVec 64) (h : s.toNat < 65536) : BitVec.setWidth 8 (s >>> 9 &&& 7#64) = (stR s).typ := by
  apply BitVec.eq_of_toNat_eq
  unfold stR
  rw [BitVec.toNat_setWidth, BitVec.toNat_and, BitVec.toNat_ushiftRight, Nat.shiftRight_eq_div_pow, BitVec.toNat_ofNat]
  show (s.toNat / 2 ^ 9 &&& 7) % 2 ^ 8 = _
  rw [show (7 : Nat) = 2 ^ 3 - 1 from rfl, Nat.and_two_pow_sub_one_eq_mod]
  dsimp only
  rw [BitVec.toNat_ofNat]
theorem st_code (s : BitVec 64) (h : s.toNat < 65536) : BitVec.setWidth 8 (s >>> 1) = (stR s).code := by
  apply BitVec.eq_of_toNat_eq
  unfold stR
  rw [BitVec.toNat_setWidth, BitVec.toNat_ushiftRight, Nat.shiftRight_eq_div_pow, BitVec.toNat_ofNat]
  omega
theorem uv_one (z : BitVec 64) : (uv z == 1) = decide (z.toNat = 1) := by
  have : uv z = (z.toNat : Int) := rfl
  rw [Bool.eq_iff_iff, beq_iff_eq, decide_eq_true_eq, this]; omega
theorem st_more (s : BitVec 64) (h : s.toNat < 65536) : (uv (s >>> 14 &&& 1#64) == 1) = (stR s).more := by
  rw [uv_one]
  unfold stR
  dsimp only
  have h1 : (s >>> 14 &&& 1#64).toNat = s.toNat / 16384 % 2 := by
    rw [BitVec.toNat_and, BitVec.toNat_ushiftRight, Nat.shiftRight_eq_div_pow]
    show s.toNat / 2 ^ 14 &&& 1 = _
    rw [Nat.and_one_is_mod]
  rw [h1]
theorem st_never (s : BitVec 64) (h : s.toNat < 65536) : (uv (s >>> 15) == 1) = (stR s).never := by
  rw [uv_one]
  unfold stR
  dsimp only
  rw [BitVec.toNat_ushiftRight, Nat.shiftRight_eq_div_pow]
set_option maxHeartbeats 3200000 in
set_option maxRecDepth 20000 in
theorem readEr_at {d : Nat} (p : Nat) (v : Value) (l : List (BitVec 8)) (w : World) (hp : RdAt w 287 p d v l 0) (hl : l.length = 64) :
    Calls Tryd.prog 110 #[.pointer (some ⟨p, 0, none⟩)] w fun e w' => e = .returned (.agg (Er.cells (erRd l)).toArray) ∧ Chg (fun b => b = p) w w' := by
  obtain ⟨x0, h0⟩ : ∃ x, num l 0 8 = x := ⟨_, rfl⟩
  obtain ⟨x1, h1⟩ : ∃ x, num l 8 2 = x := ⟨_, rfl⟩
  obtain ⟨x2, h2⟩ : ∃ x, num l 10 2 = x := ⟨_, rfl⟩
  obtain ⟨x3, h3⟩ : ∃ x, num l 12 2 = x := ⟨_, rfl⟩
  obtain ⟨x4, h4⟩ : ∃ x, num l 14 2 = x := ⟨_, rfl⟩
  obtain ⟨x5, h5⟩ : ∃ x, num l 16 8 = x := ⟨_, rfl⟩
  obtain ⟨x6, h6⟩ : ∃ x, num l 24 4 = x := ⟨_, rfl⟩
  obtain ⟨x7, h7⟩ : ∃ x, num l 32 8 = x := ⟨_, rfl⟩
  rw [show (Er.cells (erRd l)).toArray = #[.int .u64 (uv x0), .int .u16 (uv (x1.setWidth 16)), .int .u16 (uv (x2.setWidth 16)), .int .u8 (uv (stR x3).typ), .int .u8 (uv (stR x3).code), .bool (stR x3).more, .bool (stR x3).never, .int .u16 (uv (x4.setWidth 16)), .int .u64 (uv x5), .int .u32 (uv (x6.setWidth 32)), .int .u64 (uv x7)] by unfold erRd; rw [h0, h1, h2, h3, h4, h5, h6, h7]; rfl]
  have HS := Lib.hid (show x3.toNat < 65536 by rw [← h3]; exact num_lt l 12 2 (by omega) (by decide))
  have H0 := Lib.hid h0; have H1 := Lib.hid h1; have H2 := Lib.hid h2; have H3 := Lib.hid h3; have H4 := Lib.hid h4; have H5 := Lib.hid h5; have H6 := Lib.hid h6; have H7 := Lib.hid h7; have HL := Lib.hid hl
  have PLT := Lib.hid hp.lt
  obtain ⟨w0, hW⟩ : ∃ W, W = w.alloc (.cells #[.int .u64 0, .int .u16 0, .int .u16 0, .int .u8 0, .int .u8 0, .bool false, .bool false, .int .u16 0, .int .u64 0, .int .u32 0, .int .u64 0] 57) := ⟨_, rfl⟩
  have D := Lib.hid (show Below w.heap.size w w0 by rw [hW]; exact gr_alloc w _)
  have X0 := Lib.hid (show w0.heap[w.heap.size]? = some (.cells #[.int .u64 0, .int .u16 0, .int .u16 0, .int .u8 0, .int .u8 0, .bool false, .bool false, .int .u16 0, .int .u64 0, .int .u32 0, .int .u64 0] 57 (0, 0)) by rw [hW]; exact heap_alloc_new w _)
  have R0 := Lib.hid (show RdAt w0 287 p d v (l.drop 0) 0 by rw [List.drop_zero]; exact hp.below D.out)
  have NP := Lib.hid (show ¬ w.heap.size = p by have := PLT.out; omega)
  obtain ⟨v0, hv0⟩ : ∃ u, u = v := ⟨_, rfl⟩
  rw [← hv0] at R0
  have HW := Lib.hid hW
  clear h0 h1 h2 h3 h4 h5 h6 h7 hl hp hW hv0
  go_enter Tryd.func110, Tryd.ntmps110
  go_upto_region 1 with (fail)
  rw [← HW.out]
  have C0 := Lib.hid (Chg.of_below (B := fun b => b = p) D.out)
  go_upto_region 2 with (first
    | (go_at_call 104; go_loud ((with_reducible refine (next_at p v0 l 0 0 8 8 x0 w0 rfl R0.out (by decide) (by decide) (by rw [HL.out]; decide) H0.out).mono ?_); rintro r w1 ⟨rfl, ⟨v1, hr⟩, hc⟩; have R1 := Lib.hid hr; have C1 := Lib.hid (C0.out.trans hc); have X1 := Lib.hid (hc.blk X0.out NP.out); clear hr hc))
    | (go_at_call 104; go_loud ((with_reducible refine (next_at p v1 l 8 8 2 2 x1 w1 rfl R1.out (by decide) (by decide) (by rw [HL.out]; decide) H1.out).mono ?_); rintro r w2 ⟨rfl, ⟨v2, hr⟩, hc⟩; have R2 := Lib.hid hr; have C2 := Lib.hid (C1.out.trans hc); have X2 := Lib.hid (hc.blk X1.out NP.out); clear hr hc))
    | (go_at_call 104; go_loud ((with_reducible refine (next_at p v2 l 10 10 2 2 x2 w2 rfl R2.out (by decide) (by decide) (by rw [HL.out]; decide) H2.out).mono ?_); rintro r w3 ⟨rfl, ⟨v3, hr⟩, hc⟩; have R3 := Lib.hid hr; have C3 := Lib.hid (C2.out.trans hc); have X3 := Lib.hid (hc.blk X2.out NP.out); clear hr hc))
    | (refine wpList_store_new rfl 57 (.tmp 3) (.tmp 13) rfl #[.int .u64 (uv x0), .int .u16 (uv (x1.setWidth 16)), .int .u16 (uv (x2.setWidth 16)), .int .u8 0, .int .u8 0, .bool false, .bool false, .int .u16 0, .int .u64 0, .int .u32 0, .int .u64 0] 57 _ rfl rfl (by kernel_rfl) rfl (by simp [Value.oneCell']) ?_; intro w4 hh hb; have Y4 := Lib.hid hh; have R4 := Lib.hid (R3.out.below hb); have C4 := Lib.hid (C3.out.trans (Chg.of_below (B := fun b => b = p) hb)); have X4 := Lib.hid (blk_below X3.out hb); clear hh hb))
  obtain ⟨v4, hv4⟩ : ∃ u, u = v3 := ⟨_, rfl⟩
  rw [← hv4] at R4
  clear hv4
  obtain ⟨Y, hY⟩ : ∃ Y, w3.heap.size = Y := ⟨_, rfl⟩
  have NE := Lib.hid (show ¬ Y = p ∧ ¬ w.heap.size = Y ∧ w.heap.size ≤ Y ∧ p < Y by
    have h1 := PLT.out; have h2 := C3.out.size; have h3 := (Array.getElem?_eq_some_iff.1 X3.out).1; omega)
  rw [hY] at Y4 ⊢
  clear hY
  go_upto_region 3 with (go_at_call 104; go_loud ((with_reducible refine (next_at p v4 l 12 12 2 2 x3 w4 rfl R4.out (by decide) (by decide) (by rw [HL.out]; decide) H3.out).mono ?_); rintro r w5 ⟨rfl, ⟨v5, hr⟩, hc⟩; have R5 := Lib.hid hr; have C5 := Lib.hid (C4.out.trans hc); have X5 := Lib.hid (hc.blk X4.out NP.out); have Y5 := Lib.hid (hc.blk Y4.out NE.out.1); clear hr hc))
  have e1 := st_typ x3 HS.out; have e2 := st_code x3 HS.out; have e3 := st_more x3 HS.out; have e4 := st_never x3 HS.out
  have TH := Lib.hid (show w5.there Y 3 4 from fun j hj => by
    refine ⟨?_, frozen_of_row _ _ _ _ _ Y5.out⟩
    rw [cell_of_row _ _ _ _ _ _ Y5.out]
    match j, hj with
    | 0, _ => rfl
    | 1, _ => rfl
    | 2, _ => rfl
    | 3, _ => rfl)
  go_upto_region 4 with (refine wpList_store_mid rfl 27 (.tmp 31) (.tmp 30) rfl Y 3 #[.int .u8 (uv (stR x3).typ), .int .u8 (uv (stR x3).code), .bool (stR x3).more, .bool (stR x3).never] rfl rfl TH.out (by kernel_rfl) (by simp [Value.oneCell']) ?_)
  obtain ⟨w6, hw6⟩ : ∃ w6, w6 = w5.setCells Y 3 [.int .u8 (uv (stR x3).typ), .int .u8 (uv (stR x3).code), .bool (stR x3).more, .bool (stR x3).never] := ⟨_, rfl⟩
  have c6 : Chg (fun b => b = Y) w5 w6 := by
    rw [hw6]
    exact (((Chg.setCell (B := fun b => b = Y) (p := ⟨Y, 3, none⟩) _ rfl _).trans (Chg.setCell (B := fun b => b = Y) (p := ⟨Y, 4, none⟩) _ rfl _)).trans (Chg.setCell (B := fun b => b = Y) (p := ⟨Y, 5, none⟩) _ rfl _)).trans (Chg.setCell (B := fun b => b = Y) (p := ⟨Y, 6, none⟩) _ rfl _)
  have Y6 := Lib.hid (show w6.heap[Y]? = some (.cells #[.int .u64 (uv x0), .int .u16 (uv (x1.setWidth 16)), .int .u16 (uv (x2.setWidth 16)), .int .u8 (uv (stR x3).typ), .int .u8 (uv (stR x3).code), .bool (stR x3).more, .bool (stR x3).never, .int .u16 0, .int .u64 0, .int .u32 0, .int .u64 0] 57 (0, 0)) by
    rw [hw6]; exact heap_setCell_same _ _ _ _ _ _ (heap_setCell_same _ _ _ _ _ _ (heap_setCell_same _ _ _ _ _ _ (heap_setCell_same _ _ _ _ _ _ Y5.out))))
  have X6 := Lib.hid (c6.blk X5.out NE.out.2.1)
  have C6 := Lib.hid (chg_newer C5.out c6 (fun g hg => by subst hg; exact NE.out.2.2.1))
  have R6 := Lib.hid (rd_chg R5.out c6 NE.out.2.2.2)
  obtain ⟨v6, hv6⟩ : ∃ u, u = v5 := ⟨_, rfl⟩
  rw [← hv6] at R6
  rw [← hw6]
  clear hw6 c6 hv6 e1 e2 e3 e4
  go_upto_region 5 with (first
    | (go_at_call 104; go_loud ((with_reducible refine (next_at p v6 l 14 14 2 2 x4 w6 rfl R6.out (by decide) (by decide) (by rw [HL.out]; decide) H4.out).mono ?_); rintro r w7 ⟨rfl, ⟨v7, hr⟩, hc⟩; have R7 := Lib.hid hr; have C7 := Lib.hid (C6.out.trans hc); have X7 := Lib.hid (hc.blk X6.out NP.out); have Y7 := Lib.hid (hc.blk Y6.out NE.out.1); clear hr hc))
    | (go_at_call 104; go_loud ((with_reducible refine (next_at p v7 l 16 16 8 8 x5 w7 rfl R7.out (by decide) (by decide) (by rw [HL.out]; decide) H5.out).mono ?_); rintro r w8 ⟨rfl, ⟨v8, hr⟩, hc⟩; have R8 := Lib.hid hr; have C8 := Lib.hid (C7.out.trans hc); have X8 := Lib.hid (hc.blk X7.out NP.out); have Y8 := Lib.hid (hc.blk Y7.out NE.out.1); clear hr hc))
    | (go_at_call 104; go_loud ((with_reducible refine (next_at p v8 l 24 24 4 4 x6 w8 rfl R8.out (by decide) (by decide) (by rw [HL.out]; decide) H6.out).mono ?_); rintro r w9 ⟨rfl, ⟨v9, hr⟩, hc⟩; have R9 := Lib.hid hr; have C9 := Lib.hid (C8.out.trans hc); have X9 := Lib.hid (hc.blk X8.out NP.out); have Y9 := Lib.hid (hc.blk Y8.out NE.out.1); have y7 : w9.cell? ⟨Y, 7, none⟩ = some (.int .u16 0) := (cell_of_row _ _ 7 _ _ _ Y9.out).trans rfl; have y8 : w9.cell? ⟨Y, 8, none⟩ = some (.int .u64 0) := (cell_of_row _ _ 8 _ _ _ Y9.out).trans rfl; have y9 : w9.cell? ⟨Y, 9, none⟩ = some (.int .u32 0) := (cell_of_row _ _ 9 _ _ _ Y9.out).trans rfl; have f7 := frozen_of_row _ _ 7 _ _ Y9.out; have f8 := frozen_of_row _ _ 8 _ _ Y9.out; have f9 := frozen_of_row _ _ 9 _ _ Y9.out; clear hr hc)))
  obtain ⟨wa, hwa⟩ : ∃ wa, wa = ((w9.setCell ⟨Y, 7, none⟩ (.int .u16 (uv (x4.setWidth 16)))).setCell ⟨Y, 8, none⟩ (.int .u64 (uv x5))).setCell ⟨Y, 9, none⟩ (.int .u32 (uv (x6.setWidth 32))) := ⟨_, rfl⟩
  have ca : Chg (fun b => b = Y) w9 wa := by
    rw [hwa]
    exact ((Chg.setCell (B := fun b => b = Y) (p := ⟨Y, 7, none⟩) _ rfl _).trans (Chg.setCell (B := fun b => b = Y) (p := ⟨Y, 8, none⟩) _ rfl _)).trans (Chg.setCell (B := fun b => b = Y) (p := ⟨Y, 9, none⟩) _ rfl _)
  have Ya := Lib.hid (show wa.heap[Y]? = some (.cells #[.int .u64 (uv x0), .int .u16 (uv (x1.setWidth 16)), .int .u16 (uv (x2.setWidth 16)), .int .u8 (uv (stR x3).typ), .int .u8 (uv (stR x3).code), .bool (stR x3).more, .bool (stR x3).never, .int .u16 (uv (x4.setWidth 16)), .int .u64 (uv x5), .int .u32 (uv (x6.setWidth 32)), .int .u64 0] 57 (0, 0)) by
    rw [hwa]; exact heap_setCell_same _ _ _ _ _ _ (heap_setCell_same _ _ _ _ _ _ (heap_setCell_same _ _ _ _ _ _ Y9.out)))
  have Xa := Lib.hid (ca.blk X9.out NE.out.2.1)
  have Ca := Lib.hid (chg_newer C9.out ca (fun g hg => by subst hg; exact NE.out.2.2.1))
  have Ra := Lib.hid (rd_chg R9.out ca NE.out.2.2.2)
  rw [← hwa]
  clear hwa ca y7 y8 y9 f7 f8 f9
  go_upto_region 6 with (go_at_call 111; go_loud (refine (skip_at p v9 l 28 28 4 4 wa rfl Ra.out (by rw [HL.out]; decide)).mono ?_; rintro r wb ⟨rfl, ⟨vb, hr⟩, hc⟩; have Rb := Lib.hid hr; have Cb := Lib.hid (Ca.out.trans hc); have Xb := Lib.hid (hc.blk Xa.out NP.out); have Yb := Lib.hid (hc.blk Ya.out NE.out.1); clear hr hc))
  go_upto_region 7 with (go_at_call 104; go_loud (refine (next_at p vb l 32 32 8 8 x7 wb rfl Rb.out (by decide) (by decide) (by rw [HL.out]; decide) H7.out).mono ?_; rintro r wc ⟨rfl, -, hc⟩; have Cc := Lib.hid (Cb.out.trans hc); have Xc := Lib.hid (hc.blk Xb.out NP.out); have Yc := Lib.hid (hc.blk Yb.out NE.out.1); have yc : wc.cell? ⟨Y, 10, none⟩ = some (.int .u64 0) := (cell_of_row _ _ 10 _ _ _ Yc.out).trans rfl; have fc := frozen_of_row _ _ 10 _ _ Yc.out; clear hc))
  obtain ⟨wd, hwd⟩ : ∃ wd, wd = wc.setCell ⟨Y, 10, none⟩ (.int .u64 (uv x7)) := ⟨_, rfl⟩
  have cd : Chg (fun b => b = Y) wc wd := by rw [hwd]; exact Chg.setCell (B := fun b => b = Y) (p := ⟨Y, 10, none⟩) _ rfl _
  have Yd := Lib.hid (show wd.heap[Y]? = some (.cells #[.int .u64 (uv x0), .int .u16 (uv (x1.setWidth 16)), .int .u16 (uv (x2.setWidth 16)), .int .u8 (uv (stR x3).typ), .int .u8 (uv (stR x3).code), .bool (stR x3).more, .bool (stR x3).never, .int .u16 (uv (x4.setWidth 16)), .int .u64 (uv x5), .int .u32 (uv (x6.setWidth 32)), .int .u64 (uv x7)] 57 (0, 0)) by rw [hwd]; exact heap_setCell_same _ _ _ _ _ _ Yc.out)
  have Xd := Lib.hid (cd.blk Xc.out NE.out.2.1)
  have Cd := Lib.hid (chg_newer Cc.out cd (fun g hg => by subst hg; exact NE.out.2.2.1))
  rw [← hwd]
  clear hwd cd yc fc
  go_wp2_with (first
    | (refine wpList_load_row rfl 57 (.tmp 3) rfl Y rfl 57 #[.int .u64 (uv x0), .int .u16 (uv (x1.setWidth 16)), .int .u16 (uv (x2.setWidth 16)), .int .u8 (uv (stR x3).typ), .int .u8 (uv (stR x3).code), .bool (stR x3).more, .bool (stR x3).never, .int .u16 (uv (x4.setWidth 16)), .int .u64 (uv x5), .int .u32 (uv (x6.setWidth 32)), .int .u64 (uv x7)] (0, 0) _ Yd.out Tryd.underlying57 rfl (by kernel_rfl) ?_)
    | (refine wpList_store_row rfl 57 (.tmp 2) (.tmp 48) rfl w.heap.size #[.int .u64 (uv x0), .int .u16 (uv (x1.setWidth 16)), .int .u16 (uv (x2.setWidth 16)), .int .u8 (uv (stR x3).typ), .int .u8 (uv (stR x3).code), .bool (stR x3).more, .bool (stR x3).never, .int .u16 (uv (x4.setWidth 16)), .int .u64 (uv x5), .int .u32 (uv (x6.setWidth 32)), .int .u64 (uv x7)] rfl rfl 57 _ Xd.out (by kernel_rfl) rfl (by simp [Value.oneCell']) ?_))
  exact bodyPost_ret (results_cell_row rfl _ _ w.heap.size 57 _ (0, 0) _ rfl (setRow_heap _ _ _ _ _ _ Xd.out) Tryd.underlying57 rfl (by kernel_rfl)) rfl ⟨rfl, chg_newer Cd.out (Chg.setRow (B := fun b => b = w.heap.size) wd rfl _) (fun g hg => by subst hg; exact Nat.le_refl _)⟩
namespace Lg
def erOkB (l : List (BitVec 8)) : Bool := erOk (erRd l) && (erB (erRd l) == l)
end Lg
set_option maxHeartbeats 3200000 in
set_option maxRecDepth 20000 in
theorem decoded_Er (l : List (BitVec 8)) (bv : Value) (w : World) (y : Er) (e : Int) (hb : BytesV w bv l) (hl : l.length ≤ 140737488355328) (hd : decP 64 erRd erOkB erZ l = (y, e)) :
    Calls Tryd.prog 109 #[bv, .int .i64 64, .func (.func 110) #[] #[], .func (.func 44) #[] #[]] w fun r w' => r = .returned (.tuple #[.agg (Er.cells y).toArray, .int .i64 e]) ∧ Below w.heap.size w w' := by
  obtain ⟨av, cv, rfl, hv0, hv1, hv2, hv3⟩ := id hb
  have hm : l.length ≤ 9223372036854775807 := by omega
  have BV := Lib.hid hb
  have HLL := Lib.hid hl
  obtain ⟨V, hV⟩ : ∃ V, V = w.alloc (.cells #[.int .u64 0, .int .u16 0, .int .u16 0, .int .u8 0, .int .u8 0, .bool false, .bool false, .int .u16 0, .int .u64 0, .int .u32 0, .int .u64 0] 57) := ⟨_, rfl⟩
  have DV := Lib.hid (show Below w.heap.size w V by rw [hV]; exact gr_alloc w _)
  have XV := Lib.hid (show V.heap[w.heap.size]? = some (.cells #[.int .u64 0, .int .u16 0, .int .u16 0, .int .u8 0, .int .u8 0, .bool false, .bool false, .int .u16 0, .int .u64 0, .int .u32 0, .int .u64 0] 57 (0, 0)) by rw [hV]; exact heap_alloc_new w _)
  have VS := Lib.hid (show w.heap.size < V.heap.size by rw [hV]; simp)
  have HV := Lib.hid hV
  have ZS := Lib.hid (show (Er.cells erZ).toArray = #[.int .u64 0, .int .u16 0, .int .u16 0, .int .u8 0, .int .u8 0, .bool false, .bool false, .int .u16 0, .int .u64 0, .int .u32 0, .int .u64 0] from rfl)
  clear hb hv0 hv1 hv2 hv3 hV hl
  unfold decP at hd
  by_cases p1 : l.length < 64
  · rw [if_pos p1] at hd
    cases hd
    rw [ZS.out]
    have d1 : decide ((l.length : Int) < 64) = true := decide_eq_true (by omega)
    have d1b : decide (l.length < 64) = true := decide_eq_true (by omega)
    clear p1
    go_enter Tryd.func109, Tryd.ntmps109
    go_upto_region 1 with (fail)
    rw [← HV.out]
    go_wp2_with (first
      | (refine wpList_load_row rfl 57 (.tmp 8) rfl w.heap.size rfl 57 #[.int .u64 0, .int .u16 0, .int .u16 0, .int .u8 0, .int .u8 0, .bool false, .bool false, .int .u16 0, .int .u64 0, .int .u32 0, .int .u64 0] (0, 0) _ XV.out Tryd.underlying57 rfl (by kernel_rfl) ?_)
      | (refine wpList_store_row rfl 57 (.tmp 8) (.tmp 18) rfl w.heap.size #[.int .u64 0, .int .u16 0, .int .u16 0, .int .u8 0, .int .u8 0, .bool false, .bool false, .int .u16 0, .int .u64 0, .int .u32 0, .int .u64 0] rfl rfl 57 _ XV.out (by kernel_rfl) rfl (by simp [Value.oneCell']) ?_))
    exact bodyPost_ret (results_row_tmp rfl _ _ w.heap.size 57 #[.int .u64 0, .int .u16 0, .int .u16 0, .int .u8 0, .int .u8 0, .bool false, .bool false, .int .u16 0, .int .u64 0, .int .u32 0, .int .u64 0] (0, 0) _ rfl (setRow_heap _ _ _ _ _ _ XV.out) Tryd.underlying57 rfl (by kernel_rfl)) rfl ⟨rfl, below_setRow DV.out (Nat.le_refl _) _⟩
  rw [if_neg p1] at hd
  have d1 : decide ((l.length : Int) < 64) = false := decide_eq_false (by omega)
  have d1b : decide (l.length < 64) = false := decide_eq_false (by omega)
  by_cases p2 : 64 < l.length
  · rw [if_pos p2] at hd
    cases hd
    rw [ZS.out]
    have d2 : decide (64 < (l.length : Int)) = true := decide_eq_true (by omega)
    have d2b : decide (64 < l.length) = true := decide_eq_true (by omega)
    clear p1 p2
    go_enter Tryd.func109, Tryd.ntmps109
    go_upto_region 1 with (fail)
    rw [← HV.out]
    go_wp2_with (first
      | (refine wpList_load_row rfl 57 (.tmp 8) rfl w.heap.size rfl 57 #[.int .u64 0, .int .u16 0, .int .u16 0, .int .u8 0, .int .u8 0, .bool false, .bool false, .int .u16 0, .int .u64 0, .int .u32 0, .int .u64 0] (0, 0) _ XV.out Tryd.underlying57 rfl (by kernel_rfl) ?_)
      | (refine wpList_store_row rfl 57 (.tmp 8) (.tmp 24) rfl w.heap.size #[.int .u64 0, .int .u16 0, .int .u16 0, .int .u8 0, .int .u8 0, .bool false, .bool false, .int .u16 0, .int .u64 0, .int .u32 0, .int .u64 0] rfl rfl 57 _ XV.out (by kernel_rfl) rfl (by simp [Value.oneCell']) ?_))
    exact bodyPost_ret (results_row_tmp rfl _ _ w.heap.size 57 #[.int .u64 0, .int .u16 0, .int .u16 0, .int .u8 0, .int .u8 0, .bool false, .bool false, .int .u16 0, .int .u64 0, .int .u32 0, .int .u64 0] (0, 0) _ rfl (setRow_heap _ _ _ _ _ _ XV.out) Tryd.underlying57 rfl (by kernel_rfl)) rfl ⟨rfl, below_setRow DV.out (Nat.le_refl _) _⟩
  rw [if_neg p2] at hd
  have d2 : decide (64 < (l.length : Int)) = false := decide_eq_false (by omega)
  have d2b : decide (64 < l.length) = false := decide_eq_false (by omega)
  have HL := Lib.hid (show l.length = 64 by omega)
  have HD := Lib.hid hd
  clear p1 p2 hd
  obtain ⟨x, hx⟩ : ∃ x, erRd l = x := ⟨_, rfl⟩
  have HX := Lib.hid hx
  obtain ⟨cx, hcx⟩ : ∃ c, (Er.cells x).toArray = c := ⟨_, rfl⟩
  have HCX := Lib.hid hcx
  have SZX := Lib.hid (show cx.size = 11 by rw [← hcx]; rfl)
  have ONX := Lib.hid (show cx.all (·.oneCell') = true by rw [← hcx]; simp [Er.cells, St.cells, Value.oneCell'])
  clear hx hcx
  obtain ⟨bo, hbo⟩ : ∃ b, erOk x = b := ⟨_, rfl⟩
  have HO := Lib.hid hbo; clear hbo
  go_enter Tryd.func109, Tryd.ntmps109
  go_upto_region 1 with (fail)
  rw [← HV.out]
  go_upto_region 6 with (first
    | (go_at_call 149; go_loud (refine (NewReader_any _ l _ (BV.out.below DV.out) HLL.out).mono ?_; rintro r w1 ⟨p, v, rfl, hp, hr, hw⟩; have HP := Lib.hid hp; have R := Lib.hid hr; have D1 := Lib.hid (gr_tr DV.out hw); have DW := Lib.hid hw; clear hp hr hw))
    | (go_at_call 110; go_loud (refine (readEr_at p v l _ R.out HL.out).mono ?_; rw [HX.out, HCX.out]; rintro r w2 ⟨rfl, hc⟩; have D2 := Lib.hid (hc.fresh D1.out (fun k hk => by have h1 := HP.out; have h2 := VS.out; subst hk; omega)); have X2 := Lib.hid (hc.blk (blk_below XV.out DW.out) (fun hk => by have h1 := HP.out; have h2 := VS.out; subst hk; omega)); clear hc))
    | (refine wpList_store_new rfl 57 (.tmp 10) (.tmp 28) rfl cx 57 _ rfl rfl (by rw [SZX.out]; kernel_rfl) (by rw [SZX.out]; rfl) ONX.out ?_; intro w3 hh hw; have Y3 := Lib.hid hh; have D3 := Lib.hid (gr_tr D2.out hw); have X3 := Lib.hid (blk_below X2.out hw); clear hh hw))
  clear d1 d1b d2 d2b
  have B3 := Lib.hid (BV.out.below D3.out)
  cases bo
  · have ENC := fun w => EncEr_at x 2 [] w (by unfold erE; rw [HO.out]; rfl) (by unfold erR; rw [HO.out]; rfl)
    rw [HCX.out] at ENC
    go_wp2_with (first
      | (refine wpList_load_row rfl 57 (.tmp 10) rfl w2.heap.size rfl 57 cx (0, 0) _ Y3.out Tryd.underlying57 rfl (by rw [SZX.out]; kernel_rfl) ?_)
      | (go_at_call 44; go_loud (refine (ENC _).mono ?_; rintro r w4 ⟨u, rfl, hu, hw⟩; have D4 := Lib.hid (gr_tr D3.out hw); have X4 := Lib.hid (blk_below X3.out hw); clear hu hw))
      | (refine wpList_load_row rfl 57 (.tmp 8) rfl w.heap.size rfl 57 #[.int .u64 0, .int .u16 0, .int .u16 0, .int .u8 0, .int .u8 0, .bool false, .bool false, .int .u16 0, .int .u64 0, .int .u32 0, .int .u64 0] (0, 0) _ X4.out Tryd.underlying57 rfl (by kernel_rfl) ?_)
      | (refine wpList_store_row rfl 57 (.tmp 8) (.tmp 43) rfl w.heap.size #[.int .u64 0, .int .u16 0, .int .u16 0, .int .u8 0, .int .u8 0, .bool false, .bool false, .int .u16 0, .int .u64 0, .int .u32 0, .int .u64 0] rfl rfl 57 _ X4.out (by kernel_rfl) rfl (by simp [Value.oneCell']) ?_))
    obtain ⟨e1, e2⟩ : y = erZ ∧ e = 6 := by
      have h := HD.out
      unfold erOkB at h
      rw [HX.out, HO.out] at h
      simp at h
      exact ⟨h.1.symm, h.2.symm⟩
    rw [e1, e2, ZS.out]
    exact bodyPost_ret (results_row_tmp rfl _ _ w.heap.size 57 #[.int .u64 0, .int .u16 0, .int .u16 0, .int .u8 0, .int .u8 0, .bool false, .bool false, .int .u16 0, .int .u64 0, .int .u32 0, .int .u64 0] (0, 0) _ rfl (setRow_heap _ _ _ _ _ _ X4.out) Tryd.underlying57 rfl (by kernel_rfl)) rfl ⟨rfl, below_setRow D4.out (Nat.le_refl _) _⟩
  have ENC := fun w => EncEr_at x 0 (erB x) w (by unfold erE; rw [HO.out]; rfl) (by unfold erR; rw [HO.out]; rfl)
  rw [HCX.out] at ENC
  obtain ⟨bq, hbq⟩ : ∃ b, (erB x == l) = b := ⟨_, rfl⟩
  have HQ := Lib.hid hbq; clear hbq
  obtain ⟨NB, hNB⟩ : ∃ B, erB x = B := ⟨_, rfl⟩
  rw [hNB] at ENC
  have HNB := Lib.hid hNB
  clear hNB
  cases bq
  · have HQN := Lib.hid (show (NB == l) = false by rw [← HNB.out]; exact HQ.out)
    go_wp2_with (first
      | (refine wpList_load_row rfl 57 (.tmp 10) rfl w2.heap.size rfl 57 cx (0, 0) _ Y3.out Tryd.underlying57 rfl (by rw [SZX.out]; kernel_rfl) ?_)
      | (go_at_call 44; go_loud (refine (ENC _).mono ?_; rintro r w4 ⟨u, rfl, hu, hw⟩; have U := Lib.hid (BytesV.of_own hu); have B4 := Lib.hid (B3.out.below hw); have D4 := Lib.hid (gr_tr D3.out hw); have X4 := Lib.hid (blk_below X3.out hw); clear hu hw))
      | (go_at_call 128; go_loud (refine (eqB_at _ _ _ _ _ _ U.out B4.out HQN.out).mono ?_; rintro r w5 ⟨rfl, rfl⟩))
      | (refine wpList_load_row rfl 57 (.tmp 8) rfl w.heap.size rfl 57 #[.int .u64 0, .int .u16 0, .int .u16 0, .int .u8 0, .int .u8 0, .bool false, .bool false, .int .u16 0, .int .u64 0, .int .u32 0, .int .u64 0] (0, 0) _ X4.out Tryd.underlying57 rfl (by kernel_rfl) ?_)
      | (refine wpList_store_row rfl 57 (.tmp 8) (.tmp 43) rfl w.heap.size #[.int .u64 0, .int .u16 0, .int .u16 0, .int .u8 0, .int .u8 0, .bool false, .bool false, .int .u16 0, .int .u64 0, .int .u32 0, .int .u64 0] rfl rfl 57 _ X4.out (by kernel_rfl) rfl (by simp [Value.oneCell']) ?_))
    obtain ⟨e1, e2⟩ : y = erZ ∧ e = 6 := by
      have h := HD.out
      unfold erOkB at h
      rw [HX.out, HO.out, HQ.out] at h
      simp at h
      exact ⟨h.1.symm, h.2.symm⟩
    rw [e1, e2, ZS.out]
    exact bodyPost_ret (results_row_tmp rfl _ _ w.heap.size 57 #[.int .u64 0, .int .u16 0, .int .u16 0, .int .u8 0, .int .u8 0, .bool false, .bool false, .int .u16 0, .int .u64 0, .int .u32 0, .int .u64 0] (0, 0) _ rfl (setRow_heap _ _ _ _ _ _ X4.out) Tryd.underlying57 rfl (by kernel_rfl)) rfl ⟨rfl, below_setRow D4.out (Nat.le_refl _) _⟩
  · have HQN := Lib.hid (show (NB == l) = true by rw [← HNB.out]; exact HQ.out)
    go_wp2_with (first
      | (refine wpList_load_row rfl 57 (.tmp 10) rfl w2.heap.size rfl 57 cx (0, 0) _ Y3.out Tryd.underlying57 rfl (by rw [SZX.out]; kernel_rfl) ?_)
      | (go_at_call 44; go_loud (refine (ENC _).mono ?_; rintro r w4 ⟨u, rfl, hu, hw⟩; have U := Lib.hid (BytesV.of_own hu); have B4 := Lib.hid (B3.out.below hw); have D4 := Lib.hid (gr_tr D3.out hw); have X4 := Lib.hid (blk_below X3.out hw); have Y4 := Lib.hid (blk_below Y3.out hw); clear hu hw))
      | (go_at_call 128; go_loud (refine (eqB_at _ _ _ _ _ _ U.out B4.out HQN.out).mono ?_; rintro r w5 ⟨rfl, rfl⟩))
      | (refine wpList_load_row rfl 57 (.tmp 10) rfl w2.heap.size rfl 57 cx (0, 0) _ Y4.out Tryd.underlying57 rfl (by rw [SZX.out]; kernel_rfl) ?_)
      | (refine wpList_store_row rfl 57 (.tmp 8) (.tmp 44) rfl w.heap.size cx rfl rfl 57 _ X4.out (by rw [SZX.out]; kernel_rfl) (by rw [SZX.out]; rfl) ONX.out ?_))
    obtain ⟨e1, e2⟩ : y = x ∧ e = 0 := by
      have h := HD.out
      unfold erOkB at h
      rw [HX.out, HO.out, HQ.out] at h
      simp at h
      exact ⟨h.1.symm, h.2.symm⟩
    rw [e1, e2, HCX.out]
    exact bodyPost_ret (results_row_tmp rfl _ _ w.heap.size 57 cx (0, 0) _ rfl (setRow_heap _ _ _ _ _ _ X4.out) Tryd.underlying57 rfl (by rw [SZX.out]; kernel_rfl)) rfl ⟨rfl, below_setRow D4.out (Nat.le_refl _) _⟩
set_option maxHeartbeats 1600000 in
set_option maxRecDepth 20000 in
theorem Decode_Er (l : List (BitVec 8)) (bv : Value) (w : World) (y : Er) (e : Int) (hb : BytesV w bv l) (hl : l.length ≤ 140737488355328) (hd : decP 64 erRd erOkB erZ l = (y, e)) :
    Calls Tryd.prog 45 #[bv] w fun r w' => r = .returned (.tuple #[.agg (Er.cells y).toArray, .int .i64 e]) ∧ Below w.heap.size w w' := by
  have BV := Lib.hid hb; have HL := Lib.hid hl; have HD := Lib.hid hd
  obtain ⟨V, hV⟩ : ∃ V, V = w.alloc (.cells #[.int .u64 0, .int .u16 0, .int .u16 0, .int .u8 0, .int .u8 0, .bool false, .bool false, .int .u16 0, .int .u64 0, .int .u32 0, .int .u64 0] 57) := ⟨_, rfl⟩
  have DV := Lib.hid (show Below w.heap.size w V by rw [hV]; exact gr_alloc w _)
  have XV := Lib.hid (show V.heap[w.heap.size]? = some (.cells #[.int .u64 0, .int .u16 0, .int .u16 0, .int .u8 0, .int .u8 0, .bool false, .bool false, .int .u16 0, .int .u64 0, .int .u32 0, .int .u64 0] 57 (0, 0)) by rw [hV]; exact heap_alloc_new w _)
  have HV := Lib.hid hV
  obtain ⟨cy, hcy⟩ : ∃ c, (Er.cells y).toArray = c := ⟨_, rfl⟩
  have HCY := Lib.hid hcy
  have SZY := Lib.hid (show cy.size = 11 by rw [← hcy]; rfl)
  have ONY := Lib.hid (show cy.all (·.oneCell') = true by rw [← hcy]; simp [Er.cells, St.cells, Value.oneCell'])
  rw [hcy]
  clear hb hl hd hV hcy
  go_enter Tryd.func45, Tryd.ntmps45
  go_upto_region 1 with (fail)
  rw [← HV.out]
  go_wp2_with (first
    | (go_at_call 109; go_loud (refine (decoded_Er l _ _ y e (BV.out.below DV.out) HL.out HD.out).mono ?_; rw [HCY.out]; rintro r w3 ⟨rfl, hw⟩; have D3 := Lib.hid (gr_tr DV.out hw); have X3 := Lib.hid (blk_below XV.out hw); clear hw))
    | (refine wpList_store_row rfl 57 (.tmp 2) (.tmp 6) rfl w.heap.size cy rfl rfl 57 _ X3.out (by rw [SZY.out]; kernel_rfl) (by rw [SZY.out]; rfl) ONY.out ?_))
  exact bodyPost_ret (results_row_tmp rfl _ _ w.heap.size 57 cy (0, 0) _ rfl (setRow_heap _ _ _ _ _ _ X3.out) Tryd.underlying57 rfl (by rw [SZY.out]; kernel_rfl)) rfl ⟨rfl, below_setRow D3.out (Nat.le_refl _) _⟩
theorem sum_st_falsefalse (s : St) (h : s.typ.toNat ≤ 7) (hm : s.more = false) (hn : s.never = false) : 2#64 * BitVec.setWidth 64 s.code + 512#64 * BitVec.setWidth 64 s.typ = stW s := by
  have hc := s.code.isLt
  apply BitVec.eq_of_toNat_eq
  rw [stW_nat s h]
  unfold stN
  rw [hm, hn]
  simp only [BitVec.toNat_add, BitVec.toNat_mul, BitVec.toNat_setWidth, BitVec.toNat_ofNat, if_true, if_false, Bool.false_eq_true]
  omega
theorem sum_st_falsetrue (s : St) (h : s.typ.toNat ≤ 7) (hm : s.more = false) (hn : s.never = true) : 2#64 * BitVec.setWidth 64 s.code + 512#64 * BitVec.setWidth 64 s.typ + 32768#64 = stW s := by
  have hc := s.code.isLt
  apply BitVec.eq_of_toNat_eq
  rw [stW_nat s h]
  unfold stN
  rw [hm, hn]
  simp only [BitVec.toNat_add, BitVec.toNat_mul, BitVec.toNat_setWidth, BitVec.toNat_ofNat, if_true, if_false, Bool.false_eq_true]
  omega
theorem sum_st_truefalse (s : St) (h : s.typ.toNat ≤ 7) (hm : s.more = true) (hn : s.never = false) : 2#64 * BitVec.setWidth 64 s.code + 512#64 * BitVec.setWidth 64 s.typ + 16384#64 = stW s := by
  have hc := s.code.isLt
  apply BitVec.eq_of_toNat_eq
  rw [stW_nat s h]
  unfold stN
  rw [hm, hn]
  simp only [BitVec.toNat_add, BitVec.toNat_mul, BitVec.toNat_setWidth, BitVec.toNat_ofNat, if_true, if_false, Bool.false_eq_true]
  omega
theorem sum_st_truetrue (s : St) (h : s.typ.toNat ≤ 7) (hm : s.more = true) (hn : s.never = true) : 2#64 * BitVec.setWidth 64 s.code + 512#64 * BitVec.setWidth 64 s.typ + 16384#64 + 32768#64 = stW s := by
  have hc := s.code.isLt
  apply BitVec.eq_of_toNat_eq
  rw [stW_nat s h]
  unfold stN
  rw [hm, hn]
  simp only [BitVec.toNat_add, BitVec.toNat_mul, BitVec.toNat_setWidth, BitVec.toNat_ofNat, if_true, if_false, Bool.false_eq_true]
  omega
set_option maxHeartbeats 6400000 in
set_option maxRecDepth 20000 in
theorem rEncEr_at (x : Er) (e : Int) (B : List (BitVec 8)) (w : World) (he : erE x = e) (hB : erR x = B) :
    Calls Tryd.prog 26 #[.agg (Er.cells x).toArray] w fun r w' => ∃ u, r = .returned (.tuple #[u, .int .i64 e]) ∧ BytesV w' u B ∧ Below w.heap.size w w' := by
  unfold erE at he
  unfold erR at hB
  unfold erOk at he hB
  obtain ⟨mo, hmo⟩ : ∃ b, x.st.more = b := ⟨_, rfl⟩
  obtain ⟨nv, hnv⟩ : ∃ b, x.st.never = b := ⟨_, rfl⟩
  rw [show (Er.cells x).toArray = #[.int .u64 (uv x.count), .int .u16 (uv x.queue), .int .u16 (uv x.id), .int .u8 (uv x.st.typ), .int .u8 (uv x.st.code), .bool mo, .bool nv, .int .u16 (uv x.loc), .int .u64 (uv x.lba), .int .u32 (uv x.nsid), .int .u64 (uv x.spec)] by rw [← hmo, ← hnv]; rfl]
  have HMO := Lib.hid hmo; have HNV := Lib.hid hnv
  clear hmo hnv
  by_cases hk : x.st.typ.toNat ≤ 7
  · rw [decide_eq_true hk] at he hB
    simp only [if_true] at he hB
    subst he
    have HK := Lib.hid hk
    have hst : Wire.putB (stW x.st) 2 = Wire.le (stW x.st) 2 := (fit_any (stW x.st) 2 (by decide) (by decide) (by rw [stW_nat _ hk]; have := stN_lt x.st hk; omega)).2
    have FIN := Lib.hid (show Lay.lay (Lay.lay (Lay.lay (Lay.lay (Lay.lay (Lay.lay (Lay.lay (Lay.lay (List.replicate 64 0#8) 0 (Wire.le x.count 8)) 8 (Wire.le (x.queue.setWidth 64) 2)) 10 (Wire.le (x.id.setWidth 64) 2)) 12 (Wire.le (stW x.st) 2)) 14 (Wire.le (x.loc.setWidth 64) 2)) 16 (Wire.le x.lba 8)) 24 (Wire.le (x.nsid.setWidth 64) 4)) 32 (Wire.le x.spec 8) = B by
      rw [← hB, ← er_lays x hk, (fit64 x.count).2, (fit16 x.queue).2, (fit16 x.id).2, hst, (fit16 x.loc).2, (fit64 x.lba).2, (fit32 x.nsid).2, (fit64 x.spec).2]
      rfl)
    have hq : decide (7 < uv x.st.typ) = false := decide_eq_false (by have : uv x.st.typ = x.st.typ.toNat := rfl; omega)
    obtain ⟨W, hW⟩ : ∃ W, W = w.alloc (.cells #[.int .u64 (uv x.count), .int .u16 (uv x.queue), .int .u16 (uv x.id), .int .u8 (uv x.st.typ), .int .u8 (uv x.st.code), .bool mo, .bool nv, .int .u16 (uv x.loc), .int .u64 (uv x.lba), .int .u32 (uv x.nsid), .int .u64 (uv x.spec)] 57) := ⟨_, rfl⟩
    have D := Lib.hid (show Below w.heap.size w W by rw [hW]; exact gr_alloc w _)
    have X := Lib.hid (show W.heap[w.heap.size]? = some (.cells #[.int .u64 (uv x.count), .int .u16 (uv x.queue), .int .u16 (uv x.id), .int .u8 (uv x.st.typ), .int .u8 (uv x.st.code), .bool mo, .bool nv, .int .u16 (uv x.loc), .int .u64 (uv x.lba), .int .u32 (uv x.nsid), .int .u64 (uv x.spec)] 57 (0, 0)) by rw [hW]; exact heap_alloc_new w _)
    have c3 : W.cell? ⟨w.heap.size, 3, none⟩ = some (.int .u8 (uv x.st.typ)) := (cell_of_row _ _ 3 _ _ _ X.out).trans rfl
    have LT := Lib.hid (show w.heap.size < W.heap.size by rw [hW, World.size_alloc]; omega)
    have HW := Lib.hid hW
    clear hW hk hB hst
    cases mo
    · cases nv
      · skip
        go_enter Tryd.func26, Tryd.ntmps26
        go_upto_region 1 with (fail)
        rw [← HW.out]
        go_upto_region 4 with (refine make_law bytesOk rfl _ _ rfl W.heap.size .i64 .i64 64 64 64 rfl rfl rfl rfl (by omega) (by omega) (Nat.le_refl _) ?_; intro w0 hown hgrow; have O0 := Lib.hid (show OwnN 64 w0 W.heap.size W.heap.size 64 (List.replicate 64 0#8) by have h := hown; rw [by8_made] at h; exact h); have B0 := Lib.hid ((Below.refl W.heap.size W).grown hgrow (Nat.le_refl _) (by intro k hk; cases hk)); have Xw0 := Lib.hid (blk_below X.out B0.out); clear hown hgrow)
        clear c3 hq
        have c0 : w0.cell? ⟨w.heap.size, 0, none⟩ = some (.int .u64 (uv x.count)) := (cell_of_row _ _ 0 _ _ _ Xw0.out).trans rfl
        go_upto_region 5 with (go_at_call 80; go_loud (refine (rput23 64 W.heap.size 64 W.heap.size _ 0 8 x.count _ O0.out (by decide) (by decide) (by decide)).mono ?_; rintro r w1 ⟨rfl, ho, hc⟩; have O1 := Lib.hid ho; have Xw1 := Lib.hid (hc.blk Xw0.out (by have := LT.out; omega)); have B1 := Lib.hid (B0.out.trans (hc.below (fun q hq => by subst hq; exact Nat.le_refl _) B0.out.size)); clear ho hc))
        clear c0
        have c1 : w1.cell? ⟨w.heap.size, 1, none⟩ = some (.int .u16 (uv x.queue)) := (cell_of_row _ _ 1 _ _ _ Xw1.out).trans rfl
        go_upto_region 6 with (go_at_call 80; go_loud (rw [show uv x.queue = uv (x.queue.setWidth 64) from (uw16 x.queue).symm]; refine (rput23 64 W.heap.size 64 W.heap.size _ 8 2 (x.queue.setWidth 64) _ O1.out (by decide) (by decide) (by decide)).mono ?_; rintro r w2 ⟨rfl, ho, hc⟩; have O2 := Lib.hid ho; have Xw2 := Lib.hid (hc.blk Xw1.out (by have := LT.out; omega)); have B2 := Lib.hid (B1.out.trans (hc.below (fun q hq => by subst hq; exact Nat.le_refl _) B1.out.size)); clear ho hc))
        clear c1
        have c2 : w2.cell? ⟨w.heap.size, 2, none⟩ = some (.int .u16 (uv x.id)) := (cell_of_row _ _ 2 _ _ _ Xw2.out).trans rfl
        go_upto_region 7 with (go_at_call 80; go_loud (rw [show uv x.id = uv (x.id.setWidth 64) from (uw16 x.id).symm]; refine (rput23 64 W.heap.size 64 W.heap.size _ 10 2 (x.id.setWidth 64) _ O2.out (by decide) (by decide) (by decide)).mono ?_; rintro r w3 ⟨rfl, ho, hc⟩; have O3 := Lib.hid ho; have Xw3 := Lib.hid (hc.blk Xw2.out (by have := LT.out; omega)); have B3 := Lib.hid (B2.out.trans (hc.below (fun q hq => by subst hq; exact Nat.le_refl _) B2.out.size)); clear ho hc))
        clear c2
        have c3 : w3.cell? ⟨w.heap.size, 3, none⟩ = some (.int .u8 (uv x.st.typ)) := (cell_of_row _ _ 3 _ _ _ Xw3.out).trans rfl
        have c4 : w3.cell? ⟨w.heap.size, 4, none⟩ = some (.int .u8 (uv x.st.code)) := (cell_of_row _ _ 4 _ _ _ Xw3.out).trans rfl
        have c5 : w3.cell? ⟨w.heap.size, 5, none⟩ = some (.bool false) := (cell_of_row _ _ 5 _ _ _ Xw3.out).trans rfl
        have c6 : w3.cell? ⟨w.heap.size, 6, none⟩ = some (.bool false) := (cell_of_row _ _ 6 _ _ _ Xw3.out).trans rfl
        go_upto_region 13 with (go_at_call 80; go_loud (refine (rput23 64 W.heap.size 64 W.heap.size _ 12 2 _ _ O3.out (by decide) (by decide) (by decide)).mono ?_; rintro r w4 ⟨rfl, ho, hc⟩; have O4 := Lib.hid ho; have Xw4 := Lib.hid (hc.blk Xw3.out (by have := LT.out; omega)); have B4 := Lib.hid (B3.out.trans (hc.below (fun q hq => by subst hq; exact Nat.le_refl _) B3.out.size)); clear ho hc))
        clear c3 c4 c5 c6
        have c7 : w4.cell? ⟨w.heap.size, 7, none⟩ = some (.int .u16 (uv x.loc)) := (cell_of_row _ _ 7 _ _ _ Xw4.out).trans rfl
        go_upto_region 14 with (go_at_call 80; go_loud (rw [show uv x.loc = uv (x.loc.setWidth 64) from (uw16 x.loc).symm]; refine (rput23 64 W.heap.size 64 W.heap.size _ 14 2 (x.loc.setWidth 64) _ O4.out (by decide) (by decide) (by decide)).mono ?_; rintro r w5 ⟨rfl, ho, hc⟩; have O5 := Lib.hid ho; have Xw5 := Lib.hid (hc.blk Xw4.out (by have := LT.out; omega)); have B5 := Lib.hid (B4.out.trans (hc.below (fun q hq => by subst hq; exact Nat.le_refl _) B4.out.size)); clear ho hc))
        clear c7
        have c8 : w5.cell? ⟨w.heap.size, 8, none⟩ = some (.int .u64 (uv x.lba)) := (cell_of_row _ _ 8 _ _ _ Xw5.out).trans rfl
        go_upto_region 15 with (go_at_call 80; go_loud (refine (rput23 64 W.heap.size 64 W.heap.size _ 16 8 x.lba _ O5.out (by decide) (by decide) (by decide)).mono ?_; rintro r w6 ⟨rfl, ho, hc⟩; have O6 := Lib.hid ho; have Xw6 := Lib.hid (hc.blk Xw5.out (by have := LT.out; omega)); have B6 := Lib.hid (B5.out.trans (hc.below (fun q hq => by subst hq; exact Nat.le_refl _) B5.out.size)); clear ho hc))
        clear c8
        have c9 : w6.cell? ⟨w.heap.size, 9, none⟩ = some (.int .u32 (uv x.nsid)) := (cell_of_row _ _ 9 _ _ _ Xw6.out).trans rfl
        go_upto_region 16 with (go_at_call 80; go_loud (rw [show uv x.nsid = uv (x.nsid.setWidth 64) from (uw32 x.nsid).symm]; refine (rput23 64 W.heap.size 64 W.heap.size _ 24 4 (x.nsid.setWidth 64) _ O6.out (by decide) (by decide) (by decide)).mono ?_; rintro r w7 ⟨rfl, ho, hc⟩; have O7 := Lib.hid ho; have Xw7 := Lib.hid (hc.blk Xw6.out (by have := LT.out; omega)); have B7 := Lib.hid (B6.out.trans (hc.below (fun q hq => by subst hq; exact Nat.le_refl _) B6.out.size)); clear ho hc))
        clear c9
        have c10 : w7.cell? ⟨w.heap.size, 10, none⟩ = some (.int .u64 (uv x.spec)) := (cell_of_row _ _ 10 _ _ _ Xw7.out).trans rfl
        go_wp2_with (go_at_call 80; go_loud (refine (rput23 64 W.heap.size 64 W.heap.size _ 32 8 x.spec _ O7.out (by decide) (by decide) (by decide)).mono ?_; rintro r w8 ⟨rfl, ho, hc⟩; have O8 := Lib.hid ho; have Xw8 := Lib.hid (hc.blk Xw7.out (by have := LT.out; omega)); have B8 := Lib.hid (B7.out.trans (hc.below (fun q hq => by subst hq; exact Nat.le_refl _) B7.out.size)); clear ho hc))
        clear c10
        go_ret2
        refine ⟨_, rfl, ?_, gr_tr D.out B8.out⟩
        have hO := O8.out
        rw [sum_st_falsefalse x.st HK.out HMO.out HNV.out, FIN.out] at hO
        exact hO.bytes
      · skip
        go_enter Tryd.func26, Tryd.ntmps26
        go_upto_region 1 with (fail)
        rw [← HW.out]
        go_upto_region 4 with (refine make_law bytesOk rfl _ _ rfl W.heap.size .i64 .i64 64 64 64 rfl rfl rfl rfl (by omega) (by omega) (Nat.le_refl _) ?_; intro w0 hown hgrow; have O0 := Lib.hid (show OwnN 64 w0 W.heap.size W.heap.size 64 (List.replicate 64 0#8) by have h := hown; rw [by8_made] at h; exact h); have B0 := Lib.hid ((Below.refl W.heap.size W).grown hgrow (Nat.le_refl _) (by intro k hk; cases hk)); have Xw0 := Lib.hid (blk_below X.out B0.out); clear hown hgrow)
        clear c3 hq
        have c0 : w0.cell? ⟨w.heap.size, 0, none⟩ = some (.int .u64 (uv x.count)) := (cell_of_row _ _ 0 _ _ _ Xw0.out).trans rfl
        go_upto_region 5 with (go_at_call 80; go_loud (refine (rput23 64 W.heap.size 64 W.heap.size _ 0 8 x.count _ O0.out (by decide) (by decide) (by decide)).mono ?_; rintro r w1 ⟨rfl, ho, hc⟩; have O1 := Lib.hid ho; have Xw1 := Lib.hid (hc.blk Xw0.out (by have := LT.out; omega)); have B1 := Lib.hid (B0.out.trans (hc.below (fun q hq => by subst hq; exact Nat.le_refl _) B0.out.size)); clear ho hc))
        clear c0
        have c1 : w1.cell? ⟨w.heap.size, 1, none⟩ = some (.int .u16 (uv x.queue)) := (cell_of_row _ _ 1 _ _ _ Xw1.out).trans rfl
        go_upto_region 6 with (go_at_call 80; go_loud (rw [show uv x.queue = uv (x.queue.setWidth 64) from (uw16 x.queue).symm]; refine (rput23 64 W.heap.size 64 W.heap.size _ 8 2 (x.queue.setWidth 64) _ O1.out (by decide) (by decide) (by decide)).mono ?_; rintro r w2 ⟨rfl, ho, hc⟩; have O2 := Lib.hid ho; have Xw2 := Lib.hid (hc.blk Xw1.out (by have := LT.out; omega)); have B2 := Lib.hid (B1.out.trans (hc.below (fun q hq => by subst hq; exact Nat.le_refl _) B1.out.size)); clear ho hc))
        clear c1
        have c2 : w2.cell? ⟨w.heap.size, 2, none⟩ = some (.int .u16 (uv x.id)) := (cell_of_row _ _ 2 _ _ _ Xw2.out).trans rfl
        go_upto_region 7 with (go_at_call 80; go_loud (rw [show uv x.id = uv (x.id.setWidth 64) from (uw16 x.id).symm]; refine (rput23 64 W.heap.size 64 W.heap.size _ 10 2 (x.id.setWidth 64) _ O2.out (by decide) (by decide) (by decide)).mono ?_; rintro r w3 ⟨rfl, ho, hc⟩; have O3 := Lib.hid ho; have Xw3 := Lib.hid (hc.blk Xw2.out (by have := LT.out; omega)); have B3 := Lib.hid (B2.out.trans (hc.below (fun q hq => by subst hq; exact Nat.le_refl _) B2.out.size)); clear ho hc))
        clear c2
        have c3 : w3.cell? ⟨w.heap.size, 3, none⟩ = some (.int .u8 (uv x.st.typ)) := (cell_of_row _ _ 3 _ _ _ Xw3.out).trans rfl
        have c4 : w3.cell? ⟨w.heap.size, 4, none⟩ = some (.int .u8 (uv x.st.code)) := (cell_of_row _ _ 4 _ _ _ Xw3.out).trans rfl
        have c5 : w3.cell? ⟨w.heap.size, 5, none⟩ = some (.bool false) := (cell_of_row _ _ 5 _ _ _ Xw3.out).trans rfl
        have c6 : w3.cell? ⟨w.heap.size, 6, none⟩ = some (.bool true) := (cell_of_row _ _ 6 _ _ _ Xw3.out).trans rfl
        go_upto_region 13 with (go_at_call 80; go_loud (refine (rput23 64 W.heap.size 64 W.heap.size _ 12 2 _ _ O3.out (by decide) (by decide) (by decide)).mono ?_; rintro r w4 ⟨rfl, ho, hc⟩; have O4 := Lib.hid ho; have Xw4 := Lib.hid (hc.blk Xw3.out (by have := LT.out; omega)); have B4 := Lib.hid (B3.out.trans (hc.below (fun q hq => by subst hq; exact Nat.le_refl _) B3.out.size)); clear ho hc))
        clear c3 c4 c5 c6
        have c7 : w4.cell? ⟨w.heap.size, 7, none⟩ = some (.int .u16 (uv x.loc)) := (cell_of_row _ _ 7 _ _ _ Xw4.out).trans rfl
        go_upto_region 14 with (go_at_call 80; go_loud (rw [show uv x.loc = uv (x.loc.setWidth 64) from (uw16 x.loc).symm]; refine (rput23 64 W.heap.size 64 W.heap.size _ 14 2 (x.loc.setWidth 64) _ O4.out (by decide) (by decide) (by decide)).mono ?_; rintro r w5 ⟨rfl, ho, hc⟩; have O5 := Lib.hid ho; have Xw5 := Lib.hid (hc.blk Xw4.out (by have := LT.out; omega)); have B5 := Lib.hid (B4.out.trans (hc.below (fun q hq => by subst hq; exact Nat.le_refl _) B4.out.size)); clear ho hc))
        clear c7
        have c8 : w5.cell? ⟨w.heap.size, 8, none⟩ = some (.int .u64 (uv x.lba)) := (cell_of_row _ _ 8 _ _ _ Xw5.out).trans rfl
        go_upto_region 15 with (go_at_call 80; go_loud (refine (rput23 64 W.heap.size 64 W.heap.size _ 16 8 x.lba _ O5.out (by decide) (by decide) (by decide)).mono ?_; rintro r w6 ⟨rfl, ho, hc⟩; have O6 := Lib.hid ho; have Xw6 := Lib.hid (hc.blk Xw5.out (by have := LT.out; omega)); have B6 := Lib.hid (B5.out.trans (hc.below (fun q hq => by subst hq; exact Nat.le_refl _) B5.out.size)); clear ho hc))
        clear c8
        have c9 : w6.cell? ⟨w.heap.size, 9, none⟩ = some (.int .u32 (uv x.nsid)) := (cell_of_row _ _ 9 _ _ _ Xw6.out).trans rfl
        go_upto_region 16 with (go_at_call 80; go_loud (rw [show uv x.nsid = uv (x.nsid.setWidth 64) from (uw32 x.nsid).symm]; refine (rput23 64 W.heap.size 64 W.heap.size _ 24 4 (x.nsid.setWidth 64) _ O6.out (by decide) (by decide) (by decide)).mono ?_; rintro r w7 ⟨rfl, ho, hc⟩; have O7 := Lib.hid ho; have Xw7 := Lib.hid (hc.blk Xw6.out (by have := LT.out; omega)); have B7 := Lib.hid (B6.out.trans (hc.below (fun q hq => by subst hq; exact Nat.le_refl _) B6.out.size)); clear ho hc))
        clear c9
        have c10 : w7.cell? ⟨w.heap.size, 10, none⟩ = some (.int .u64 (uv x.spec)) := (cell_of_row _ _ 10 _ _ _ Xw7.out).trans rfl
        go_wp2_with (go_at_call 80; go_loud (refine (rput23 64 W.heap.size 64 W.heap.size _ 32 8 x.spec _ O7.out (by decide) (by decide) (by decide)).mono ?_; rintro r w8 ⟨rfl, ho, hc⟩; have O8 := Lib.hid ho; have Xw8 := Lib.hid (hc.blk Xw7.out (by have := LT.out; omega)); have B8 := Lib.hid (B7.out.trans (hc.below (fun q hq => by subst hq; exact Nat.le_refl _) B7.out.size)); clear ho hc))
        clear c10
        go_ret2
        refine ⟨_, rfl, ?_, gr_tr D.out B8.out⟩
        have hO := O8.out
        rw [sum_st_falsetrue x.st HK.out HMO.out HNV.out, FIN.out] at hO
        exact hO.bytes
    · cases nv
      · skip
        go_enter Tryd.func26, Tryd.ntmps26
        go_upto_region 1 with (fail)
        rw [← HW.out]
        go_upto_region 4 with (refine make_law bytesOk rfl _ _ rfl W.heap.size .i64 .i64 64 64 64 rfl rfl rfl rfl (by omega) (by omega) (Nat.le_refl _) ?_; intro w0 hown hgrow; have O0 := Lib.hid (show OwnN 64 w0 W.heap.size W.heap.size 64 (List.replicate 64 0#8) by have h := hown; rw [by8_made] at h; exact h); have B0 := Lib.hid ((Below.refl W.heap.size W).grown hgrow (Nat.le_refl _) (by intro k hk; cases hk)); have Xw0 := Lib.hid (blk_below X.out B0.out); clear hown hgrow)
        clear c3 hq
        have c0 : w0.cell? ⟨w.heap.size, 0, none⟩ = some (.int .u64 (uv x.count)) := (cell_of_row _ _ 0 _ _ _ Xw0.out).trans rfl
        go_upto_region 5 with (go_at_call 80; go_loud (refine (rput23 64 W.heap.size 64 W.heap.size _ 0 8 x.count _ O0.out (by decide) (by decide) (by decide)).mono ?_; rintro r w1 ⟨rfl, ho, hc⟩; have O1 := Lib.hid ho; have Xw1 := Lib.hid (hc.blk Xw0.out (by have := LT.out; omega)); have B1 := Lib.hid (B0.out.trans (hc.below (fun q hq => by subst hq; exact Nat.le_refl _) B0.out.size)); clear ho hc))
        clear c0
        have c1 : w1.cell? ⟨w.heap.size, 1, none⟩ = some (.int .u16 (uv x.queue)) := (cell_of_row _ _ 1 _ _ _ Xw1.out).trans rfl
        go_upto_region 6 with (go_at_call 80; go_loud (rw [show uv x.queue = uv (x.queue.setWidth 64) from (uw16 x.queue).symm]; refine (rput23 64 W.heap.size 64 W.heap.size _ 8 2 (x.queue.setWidth 64) _ O1.out (by decide) (by decide) (by decide)).mono ?_; rintro r w2 ⟨rfl, ho, hc⟩; have O2 := Lib.hid ho; have Xw2 := Lib.hid (hc.blk Xw1.out (by have := LT.out; omega)); have B2 := Lib.hid (B1.out.trans (hc.below (fun q hq => by subst hq; exact Nat.le_refl _) B1.out.size)); clear ho hc))
        clear c1
        have c2 : w2.cell? ⟨w.heap.size, 2, none⟩ = some (.int .u16 (uv x.id)) := (cell_of_row _ _ 2 _ _ _ Xw2.out).trans rfl
        go_upto_region 7 with (go_at_call 80; go_loud (rw [show uv x.id = uv (x.id.setWidth 64) from (uw16 x.id).symm]; refine (rput23 64 W.heap.size 64 W.heap.size _ 10 2 (x.id.setWidth 64) _ O2.out (by decide) (by decide) (by decide)).mono ?_; rintro r w3 ⟨rfl, ho, hc⟩; have O3 := Lib.hid ho; have Xw3 := Lib.hid (hc.blk Xw2.out (by have := LT.out; omega)); have B3 := Lib.hid (B2.out.trans (hc.below (fun q hq => by subst hq; exact Nat.le_refl _) B2.out.size)); clear ho hc))
        clear c2
        have c3 : w3.cell? ⟨w.heap.size, 3, none⟩ = some (.int .u8 (uv x.st.typ)) := (cell_of_row _ _ 3 _ _ _ Xw3.out).trans rfl
        have c4 : w3.cell? ⟨w.heap.size, 4, none⟩ = some (.int .u8 (uv x.st.code)) := (cell_of_row _ _ 4 _ _ _ Xw3.out).trans rfl
        have c5 : w3.cell? ⟨w.heap.size, 5, none⟩ = some (.bool true) := (cell_of_row _ _ 5 _ _ _ Xw3.out).trans rfl
        have c6 : w3.cell? ⟨w.heap.size, 6, none⟩ = some (.bool false) := (cell_of_row _ _ 6 _ _ _ Xw3.out).trans rfl
        go_upto_region 13 with (go_at_call 80; go_loud (refine (rput23 64 W.heap.size 64 W.heap.size _ 12 2 _ _ O3.out (by decide) (by decide) (by decide)).mono ?_; rintro r w4 ⟨rfl, ho, hc⟩; have O4 := Lib.hid ho; have Xw4 := Lib.hid (hc.blk Xw3.out (by have := LT.out; omega)); have B4 := Lib.hid (B3.out.trans (hc.below (fun q hq => by subst hq; exact Nat.le_refl _) B3.out.size)); clear ho hc))
        clear c3 c4 c5 c6
        have c7 : w4.cell? ⟨w.heap.size, 7, none⟩ = some (.int .u16 (uv x.loc)) := (cell_of_row _ _ 7 _ _ _ Xw4.out).trans rfl
        go_upto_region 14 with (go_at_call 80; go_loud (rw [show uv x.loc = uv (x.loc.setWidth 64) from (uw16 x.loc).symm]; refine (rput23 64 W.heap.size 64 W.heap.size _ 14 2 (x.loc.setWidth 64) _ O4.out (by decide) (by decide) (by decide)).mono ?_; rintro r w5 ⟨rfl, ho, hc⟩; have O5 := Lib.hid ho; have Xw5 := Lib.hid (hc.blk Xw4.out (by have := LT.out; omega)); have B5 := Lib.hid (B4.out.trans (hc.below (fun q hq => by subst hq; exact Nat.le_refl _) B4.out.size)); clear ho hc))
        clear c7
        have c8 : w5.cell? ⟨w.heap.size, 8, none⟩ = some (.int .u64 (uv x.lba)) := (cell_of_row _ _ 8 _ _ _ Xw5.out).trans rfl
        go_upto_region 15 with (go_at_call 80; go_loud (refine (rput23 64 W.heap.size 64 W.heap.size _ 16 8 x.lba _ O5.out (by decide) (by decide) (by decide)).mono ?_; rintro r w6 ⟨rfl, ho, hc⟩; have O6 := Lib.hid ho; have Xw6 := Lib.hid (hc.blk Xw5.out (by have := LT.out; omega)); have B6 := Lib.hid (B5.out.trans (hc.below (fun q hq => by subst hq; exact Nat.le_refl _) B5.out.size)); clear ho hc))
        clear c8
        have c9 : w6.cell? ⟨w.heap.size, 9, none⟩ = some (.int .u32 (uv x.nsid)) := (cell_of_row _ _ 9 _ _ _ Xw6.out).trans rfl
        go_upto_region 16 with (go_at_call 80; go_loud (rw [show uv x.nsid = uv (x.nsid.setWidth 64) from (uw32 x.nsid).symm]; refine (rput23 64 W.heap.size 64 W.heap.size _ 24 4 (x.nsid.setWidth 64) _ O6.out (by decide) (by decide) (by decide)).mono ?_; rintro r w7 ⟨rfl, ho, hc⟩; have O7 := Lib.hid ho; have Xw7 := Lib.hid (hc.blk Xw6.out (by have := LT.out; omega)); have B7 := Lib.hid (B6.out.trans (hc.below (fun q hq => by subst hq; exact Nat.le_refl _) B6.out.size)); clear ho hc))
        clear c9
        have c10 : w7.cell? ⟨w.heap.size, 10, none⟩ = some (.int .u64 (uv x.spec)) := (cell_of_row _ _ 10 _ _ _ Xw7.out).trans rfl
        go_wp2_with (go_at_call 80; go_loud (refine (rput23 64 W.heap.size 64 W.heap.size _ 32 8 x.spec _ O7.out (by decide) (by decide) (by decide)).mono ?_; rintro r w8 ⟨rfl, ho, hc⟩; have O8 := Lib.hid ho; have Xw8 := Lib.hid (hc.blk Xw7.out (by have := LT.out; omega)); have B8 := Lib.hid (B7.out.trans (hc.below (fun q hq => by subst hq; exact Nat.le_refl _) B7.out.size)); clear ho hc))
        clear c10
        go_ret2
        refine ⟨_, rfl, ?_, gr_tr D.out B8.out⟩
        have hO := O8.out
        rw [sum_st_truefalse x.st HK.out HMO.out HNV.out, FIN.out] at hO
        exact hO.bytes
      · skip
        go_enter Tryd.func26, Tryd.ntmps26
        go_upto_region 1 with (fail)
        rw [← HW.out]
        go_upto_region 4 with (refine make_law bytesOk rfl _ _ rfl W.heap.size .i64 .i64 64 64 64 rfl rfl rfl rfl (by omega) (by omega) (Nat.le_refl _) ?_; intro w0 hown hgrow; have O0 := Lib.hid (show OwnN 64 w0 W.heap.size W.heap.size 64 (List.replicate 64 0#8) by have h := hown; rw [by8_made] at h; exact h); have B0 := Lib.hid ((Below.refl W.heap.size W).grown hgrow (Nat.le_refl _) (by intro k hk; cases hk)); have Xw0 := Lib.hid (blk_below X.out B0.out); clear hown hgrow)
        clear c3 hq
        have c0 : w0.cell? ⟨w.heap.size, 0, none⟩ = some (.int .u64 (uv x.count)) := (cell_of_row _ _ 0 _ _ _ Xw0.out).trans rfl
        go_upto_region 5 with (go_at_call 80; go_loud (refine (rput23 64 W.heap.size 64 W.heap.size _ 0 8 x.count _ O0.out (by decide) (by decide) (by decide)).mono ?_; rintro r w1 ⟨rfl, ho, hc⟩; have O1 := Lib.hid ho; have Xw1 := Lib.hid (hc.blk Xw0.out (by have := LT.out; omega)); have B1 := Lib.hid (B0.out.trans (hc.below (fun q hq => by subst hq; exact Nat.le_refl _) B0.out.size)); clear ho hc))
        clear c0
        have c1 : w1.cell? ⟨w.heap.size, 1, none⟩ = some (.int .u16 (uv x.queue)) := (cell_of_row _ _ 1 _ _ _ Xw1.out).trans rfl
        go_upto_region 6 with (go_at_call 80; go_loud (rw [show uv x.queue = uv (x.queue.setWidth 64) from (uw16 x.queue).symm]; refine (rput23 64 W.heap.size 64 W.heap.size _ 8 2 (x.queue.setWidth 64) _ O1.out (by decide) (by decide) (by decide)).mono ?_; rintro r w2 ⟨rfl, ho, hc⟩; have O2 := Lib.hid ho; have Xw2 := Lib.hid (hc.blk Xw1.out (by have := LT.out; omega)); have B2 := Lib.hid (B1.out.trans (hc.below (fun q hq => by subst hq; exact Nat.le_refl _) B1.out.size)); clear ho hc))
        clear c1
        have c2 : w2.cell? ⟨w.heap.size, 2, none⟩ = some (.int .u16 (uv x.id)) := (cell_of_row _ _ 2 _ _ _ Xw2.out).trans rfl
        go_upto_region 7 with (go_at_call 80; go_loud (rw [show uv x.id = uv (x.id.setWidth 64) from (uw16 x.id).symm]; refine (rput23 64 W.heap.size 64 W.heap.size _ 10 2 (x.id.setWidth 64) _ O2.out (by decide) (by decide) (by decide)).mono ?_; rintro r w3 ⟨rfl, ho, hc⟩; have O3 := Lib.hid ho; have Xw3 := Lib.hid (hc.blk Xw2.out (by have := LT.out; omega)); have B3 := Lib.hid (B2.out.trans (hc.below (fun q hq => by subst hq; exact Nat.le_refl _) B2.out.size)); clear ho hc))
        clear c2
        have c3 : w3.cell? ⟨w.heap.size, 3, none⟩ = some (.int .u8 (uv x.st.typ)) := (cell_of_row _ _ 3 _ _ _ Xw3.out).trans rfl
        have c4 : w3.cell? ⟨w.heap.size, 4, none⟩ = some (.int .u8 (uv x.st.code)) := (cell_of_row _ _ 4 _ _ _ Xw3.out).trans rfl
        have c5 : w3.cell? ⟨w.heap.size, 5, none⟩ = some (.bool true) := (cell_of_row _ _ 5 _ _ _ Xw3.out).trans rfl
        have c6 : w3.cell? ⟨w.heap.size, 6, none⟩ = some (.bool true) := (cell_of_row _ _ 6 _ _ _ Xw3.out).trans rfl
        go_upto_region 13 with (go_at_call 80; go_loud (refine (rput23 64 W.heap.size 64 W.heap.size _ 12 2 _ _ O3.out (by decide) (by decide) (by decide)).mono ?_; rintro r w4 ⟨rfl, ho, hc⟩; have O4 := Lib.hid ho; have Xw4 := Lib.hid (hc.blk Xw3.out (by have := LT.out; omega)); have B4 := Lib.hid (B3.out.trans (hc.below (fun q hq => by subst hq; exact Nat.le_refl _) B3.out.size)); clear ho hc))
        clear c3 c4 c5 c6
        have c7 : w4.cell? ⟨w.heap.size, 7, none⟩ = some (.int .u16 (uv x.loc)) := (cell_of_row _ _ 7 _ _ _ Xw4.out).trans rfl
        go_upto_region 14 with (go_at_call 80; go_loud (rw [show uv x.loc = uv (x.loc.setWidth 64) from (uw16 x.loc).symm]; refine (rput23 64 W.heap.size 64 W.heap.size _ 14 2 (x.loc.setWidth 64) _ O4.out (by decide) (by decide) (by decide)).mono ?_; rintro r w5 ⟨rfl, ho, hc⟩; have O5 := Lib.hid ho; have Xw5 := Lib.hid (hc.blk Xw4.out (by have := LT.out; omega)); have B5 := Lib.hid (B4.out.trans (hc.below (fun q hq => by subst hq; exact Nat.le_refl _) B4.out.size)); clear ho hc))
        clear c7
        have c8 : w5.cell? ⟨w.heap.size, 8, none⟩ = some (.int .u64 (uv x.lba)) := (cell_of_row _ _ 8 _ _ _ Xw5.out).trans rfl
        go_upto_region 15 with (go_at_call 80; go_loud (refine (rput23 64 W.heap.size 64 W.heap.size _ 16 8 x.lba _ O5.out (by decide) (by decide) (by decide)).mono ?_; rintro r w6 ⟨rfl, ho, hc⟩; have O6 := Lib.hid ho; have Xw6 := Lib.hid (hc.blk Xw5.out (by have := LT.out; omega)); have B6 := Lib.hid (B5.out.trans (hc.below (fun q hq => by subst hq; exact Nat.le_refl _) B5.out.size)); clear ho hc))
        clear c8
        have c9 : w6.cell? ⟨w.heap.size, 9, none⟩ = some (.int .u32 (uv x.nsid)) := (cell_of_row _ _ 9 _ _ _ Xw6.out).trans rfl
        go_upto_region 16 with (go_at_call 80; go_loud (rw [show uv x.nsid = uv (x.nsid.setWidth 64) from (uw32 x.nsid).symm]; refine (rput23 64 W.heap.size 64 W.heap.size _ 24 4 (x.nsid.setWidth 64) _ O6.out (by decide) (by decide) (by decide)).mono ?_; rintro r w7 ⟨rfl, ho, hc⟩; have O7 := Lib.hid ho; have Xw7 := Lib.hid (hc.blk Xw6.out (by have := LT.out; omega)); have B7 := Lib.hid (B6.out.trans (hc.below (fun q hq => by subst hq; exact Nat.le_refl _) B6.out.size)); clear ho hc))
        clear c9
        have c10 : w7.cell? ⟨w.heap.size, 10, none⟩ = some (.int .u64 (uv x.spec)) := (cell_of_row _ _ 10 _ _ _ Xw7.out).trans rfl
        go_wp2_with (go_at_call 80; go_loud (refine (rput23 64 W.heap.size 64 W.heap.size _ 32 8 x.spec _ O7.out (by decide) (by decide) (by decide)).mono ?_; rintro r w8 ⟨rfl, ho, hc⟩; have O8 := Lib.hid ho; have Xw8 := Lib.hid (hc.blk Xw7.out (by have := LT.out; omega)); have B8 := Lib.hid (B7.out.trans (hc.below (fun q hq => by subst hq; exact Nat.le_refl _) B7.out.size)); clear ho hc))
        clear c10
        go_ret2
        refine ⟨_, rfl, ?_, gr_tr D.out B8.out⟩
        have hO := O8.out
        rw [sum_st_truetrue x.st HK.out HMO.out HNV.out, FIN.out] at hO
        exact hO.bytes
  · rw [decide_eq_false hk] at he hB
    simp only [Bool.false_eq_true, if_false] at he hB
    subst he; subst hB
    have hq : decide (7 < uv x.st.typ) = true := decide_eq_true (by have : uv x.st.typ = x.st.typ.toNat := rfl; omega)
    go_enter Tryd.func26, Tryd.ntmps26
    go_wp2
    go_ret2
    exact ⟨_, rfl, BytesV.nil _, gr_alloc _ _⟩
end Go.Proofs.YthnnopjakpjoeaaDoor
