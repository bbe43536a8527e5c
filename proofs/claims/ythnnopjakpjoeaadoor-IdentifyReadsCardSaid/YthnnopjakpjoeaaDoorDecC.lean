/- identify.DecodeController. Printed by genctld.py. -/
import Derived.Test.YthnnopjakpjoeaaDoorCtlM
import Derived.Shelf.Strings.SlTrimAscii
namespace Go.Proofs.YthnnopjakpjoeaaDoor
open Go.RowKit Idn
set_option linter.unusedVariables false
set_option linter.unusedSimpArgs false
theorem BytesV.keepX {B : Nat → Prop} {w : World} {v : Value} {l : List (BitVec 8)} (h : BytesV w v l) (y : KeepT B w) (hn : Off B v) : BytesV y.val v l := by
  obtain ⟨a, c, e, h0, h1, h2, h3⟩ := h
  refine ⟨a, c, e, h0, h1, h2, ?_⟩
  rcases h3 with h | ⟨b, o, rfl, h⟩
  · exact .inl h
  · refine .inr ⟨b, o, rfl, fun i hi => ?_⟩
    rw [List.getElem?_eq_getElem hi]
    exact y.cell ((h i hi).trans (List.getElem?_eq_getElem hi)) (hn _ _ _ _ e)
theorem Ctl.cells_one (x : Ctl) : (Ctl.cells x).toArray.all (·.oneCell') = true := by simp [Ctl.cells, Value.oneCell']
namespace Idn
theorem blk_ofBitVec (x : BitVec 8) : ([32, 0] : List UInt8).contains (UInt8.ofBitVec x) = blk x := by
  have h1 : (UInt8.ofBitVec x == 32) = (x == 32#8) := Wire.ofBitVec_beq x
  have h2 : (UInt8.ofBitVec x == 0) = (x == 0#8) := by
    by_cases h : x = 0#8
    · subst h; rfl
    · have hn : UInt8.ofBitVec x ≠ 0 := fun e => h (by have := congrArg UInt8.toBitVec e; simpa using this)
      rw [beq_false_of_ne hn, beq_false_of_ne h]
  unfold blk
  rw [List.contains_cons, List.contains_cons, List.contains_nil, Bool.or_false, h1, h2]
theorem dropWhile_blk (l : List (BitVec 8)) : (l.map UInt8.ofBitVec).dropWhile (([32, 0] : List UInt8).contains ·) = (l.dropWhile blk).map UInt8.ofBitVec := by
  induction l with
  | nil => rfl
  | cons x l ih =>
    rw [List.map_cons, List.dropWhile_cons, List.dropWhile_cons, blk_ofBitVec]
    cases blk x
    · rfl
    · exact ih
theorem trim_blk (l : List (BitVec 8)) : (⟨(Lib.trimRightS (strOf l).data.toList (⟨#[32, 0]⟩ : ByteArray).data.toList).toArray⟩ : ByteArray) = strOf (stripP blk l) := by
  have h : (strOf l).data.toList = l.map UInt8.ofBitVec := rfl
  unfold Lib.trimRightS stripP
  rw [h, ← List.map_reverse]
  show (⟨(((l.reverse.map UInt8.ofBitVec).dropWhile (([32, 0] : List UInt8).contains ·)).reverse).toArray⟩ : ByteArray) = _
  rw [dropWhile_blk, ← List.map_reverse]; rfl
/-- The controller when k of its texts have been read. -/
def rdCk (l : List (BitVec 8)) (k : Nat) : Ctl := { rdC blk blk l with serial := if 0 < k then stripP blk (cutL l 4 20) else [], model := if 1 < k then stripP blk (cutL l 24 40) else [], revision := if 2 < k then stripP blk (cutL l 64 8) else [], name := if 3 < k then stripP blk (cutL l 768 256) else [] }
def txC (l : List (BitVec 8)) (k : Nat) : Array Value := (Ctl.cells (rdCk l k)).toArray
set_option maxRecDepth 100000 in
theorem readS_ctl (l : List (BitVec 8)) : readS l (Ctl.cells ctlZ).toArray ctlSpec = txC l 0 := by
  simp only [readS, ctlSpec, Ctl.cells, List.foldl_cons, List.foldl_nil, List.setIfInBounds_toArray, List.set_cons_zero, List.set_cons_succ]
  rfl
theorem txC_0 (l : List (BitVec 8)) : (txC l 0).setIfInBounds 22 (.string (strOf (stripP blk (cutL l 4 20)))) = txC l 1 := rfl
theorem txC_1 (l : List (BitVec 8)) : (txC l 1).setIfInBounds 23 (.string (strOf (stripP blk (cutL l 24 40)))) = txC l 2 := rfl
theorem txC_2 (l : List (BitVec 8)) : (txC l 2).setIfInBounds 24 (.string (strOf (stripP blk (cutL l 64 8)))) = txC l 3 := rfl
theorem txC_3 (l : List (BitVec 8)) : (txC l 3).setIfInBounds 25 (.string (strOf (stripP blk (cutL l 768 256)))) = txC l 4 := rfl
theorem txC_4 (l : List (BitVec 8)) : txC l 4 = (Ctl.cells (rdC blk blk l)).toArray := rfl
end Idn
theorem trim_at (l m : List (BitVec 8)) (w : World) (hl : l.length ≤ 9223372036854775807) (hm : stripP blk l = m) :
    Calls Tryd.prog 76 #[.string (strOf l), .string ⟨#[32, 0]⟩] w fun e w' => e = .returned (.string (strOf m)) ∧ Below w.heap.size w w' := by
  subst hm
  have h := Any.strings_TrimRight_laid Tryd.lays162 (by kernel_rfl) (strOf l) ⟨#[32, 0]⟩ w (by rw [str_size]; exact hl) (by decide) (ascii_of_all (by decide))
  rw [trim_blk] at h
  exact h
set_option maxHeartbeats 6400000 in
set_option maxRecDepth 100000 in
theorem readCt_at (X bbox : Nat) (bv : Value) (l : List (BitVec 8)) (w : World) (hb : BytesV w bv l) (hl : l.length = 4096) (hbb : w.heap[bbox]? = some (.cells #[bv] 22 (0, 0))) (hoff : Off (fun b => b = X) bv) (hne : ¬ bbox = X)
    (hx : w.heap[X]? = some (.cells (Ctl.cells ctlZ).toArray 38 (0, 0))) :
    Calls Tryd.prog 72 #[.pointer (some ⟨X, 0, none⟩), .pointer (some ⟨bbox, 0, none⟩)] w fun e w' => e = .returned (.tuple #[]) ∧ w'.heap[X]? = some (.cells (Ctl.cells (rdC blk blk l)).toArray 38 (0, 0)) ∧ Chg (fun b => b = X) w w' := by
  obtain ⟨g, o, cv, rfl⟩ := hb.shapeAt (by omega)
  have hcap : l.length ≤ cv ∧ cv ≤ 9223372036854775807 := by obtain ⟨_, _, e, _, h1, h2, _⟩ := hb; injection e with _ _ e; rw [e]; exact ⟨h1, h2⟩
  rw [hl] at hb hbb hcap hoff
  obtain ⟨hc1, hc2⟩ := hcap
  have BV := Lib.hid hb; have HX := Lib.hid hx; have OFF := Lib.hid hoff; have HL := Lib.hid hl; have BB := Lib.hid hbb; have NE := Lib.hid hne
  have HXW := Lib.hid (Array.getElem?_eq_some_iff.1 hx).1
  have q0 : ∀ y : KeepT (fun b => b = X) w, y.val.cell? ⟨bbox, 0, none⟩ = some (.slice (some ⟨g, o, none⟩) 4096 cv) := fun y => y.cell ((cell_of_row _ _ 0 _ _ _ hbb).trans rfl) hne
  clear hb hbb hl hoff hx hne
  go_enter Tryd.func72, Tryd.ntmps72
  go_upto_region 0 with (fail)
  refine wp_region_planW (fun b => b = X) [(true, 0), (true, 1), (false, 2), (false, 3)] (by kernel_rfl) (by kernel_rfl) (by intro c a d v w h; cases d <;> exact h) ?_
  intro W1 K1 C1
  repeat (refine wpS_firm rfl (fun K hK => ?_); simp only [Keep]; go_simp; refine hK _ ?_; clear hK K)
  refine wpS_chain rfl ?_
  go_wp2_with (go_at_call 74; go_loud (refine (controller_any X _).mono ?_; rintro r w3 ⟨pv, ps, rfl, hsv, hkey, hps, hnv, hw⟩; have SV := Lib.hid hsv; have KEY := Lib.hid hkey; have PS := Lib.hid hps; have NV := Lib.hid hnv; have K2 := Lib.hid (K1.out.below hw); have C2 := Lib.hid (gr_tr C1.out hw); clear hsv hkey hps hnv hw))
  refine ⟨K2.out, ?_⟩
  refine wpS_chain rfl ?_
  go_wp2_with (go_at_call 73; go_loud (refine (load_any X 38 (Ctl.cells ctlZ).toArray _ pv l ps _ (BV.out.below C2.out) HL.out OFF.out SV.out (fun g o n c e h => by have := NV.out g o n c e; have := C1.out.size; have := HXW.out; omega) (blk_below HX.out C2.out) (fit_all KEY.out (by decide +kernel) PS.out (by have := C1.out.size; have := HXW.out; omega))).mono ?_; rw [readC_key KEY.out, readS_ctl]; rintro r w4 ⟨rfl, hx4, hc⟩; have X4 := Lib.hid hx4; have K3 := Lib.hid (K2.out.chg hc (fun k h => .inl h)); have C3 := Lib.hid ((Chg.of_below (B := fun b => b = X) C2.out).trans hc); clear hx4 hc))
  refine ⟨K3.out, ?_⟩
  unfold wpS
  clear q0
  go_upto_region 2 with (go_at_call 75; go_loud (refine (texts_any X _).mono ?_; rintro r w5 ⟨rfl, hw⟩; have X5 := Lib.hid (blk_below X4.out hw); have C5 := Lib.hid (C3.out.trans (Chg.of_below (B := fun b => b = X) hw)); clear hw))
  clear X4 C3 K1 K2 K3 C1 C2 SV KEY PS NV
  go_loopw [11] (fun i wr => ∃ k : Nat, k ≤ 4 ∧ i = .int .i64 k ∧ wr.heap[X]? = some (.cells (txC l k) 38 (0, 0)) ∧ Chg (fun b => b = X) w wr) (fun i _ => 4 - (intOf i).toNat)
  case atStart => exact ⟨0, by omega, rfl, X5.out, C5.out⟩
  case round =>
    clear X5 C5
    obtain ⟨k, hk, rfl, hx, hc⟩ := hrel
    have BX := Lib.hid hx; have C := Lib.hid hc; clear hx hc
    have hk5 : k = 0 ∨ k = 1 ∨ k = 2 ∨ k = 3 ∨ k = 4 := by omega
    rcases hk5 with rfl | rfl | rfl | rfl | rfl
    · have e : ((0 : Nat) : Int) = 0 := rfl
      rw [e]; clear e
      go_upto_region 4 with (first
        | (refine wpList_index_txt rfl (.tmp 10) (.tmp 11) rfl X rfl 0 rfl #[.pointer (some ⟨X, 22, none⟩), .int .i64 4, .int .i64 20, .int .i64 20] (by simp) ?_)
        | (refine wpList_store_new rfl 156 (.tmp 4) (.tmp 13) rfl #[.pointer (some ⟨X, 22, none⟩), .int .i64 4, .int .i64 20, .int .i64 20] 156 _ rfl rfl (by kernel_rfl) rfl (by simp [Value.oneCell']) ?_; intro w6 hh hb; have HH := Lib.hid hh; have HB6 := Lib.hid hb; clear hh hb))
      have BX6 := Lib.hid (blk_below BX.out HB6.out)
      have C6 := Lib.hid (C.out.trans (Chg.of_below (B := fun b => b = X) HB6.out))
      have BV6 := Lib.hid (BV.out.chg C6.out OFF.out)
      have BB6 := Lib.hid (C6.out.blk BB.out NE.out)
      have hnX : ¬ wr.heap.size = X := by have := C.out.size; have := HXW.out; omega
      have q0 : ∀ y : KeepT (fun b => b = X) w6, y.val.cell? ⟨wr.heap.size, 0, none⟩ = some (.pointer (some ⟨X, 22, none⟩)) := fun y => y.cell (cell_of_row _ _ 0 _ _ _ HH.out) hnX
      have q1 : ∀ y : KeepT (fun b => b = X) w6, y.val.cell? ⟨wr.heap.size, 1, none⟩ = some (.int .i64 4) := fun y => y.cell (cell_of_row _ _ 1 _ _ _ HH.out) hnX
      have q2 : ∀ y : KeepT (fun b => b = X) w6, y.val.cell? ⟨wr.heap.size, 2, none⟩ = some (.int .i64 20) := fun y => y.cell (cell_of_row _ _ 2 _ _ _ HH.out) hnX
      have qb : ∀ y : KeepT (fun b => b = X) w6, y.val.cell? ⟨bbox, 0, none⟩ = some (.slice (some ⟨g, o, none⟩) 4096 cv) := fun y => y.cell ((cell_of_row _ _ 0 _ _ _ BB6.out).trans rfl) NE.out
      have hsl : ∀ w', (Instr.slice 22 (.slice (some ⟨g, o, none⟩) 4096 cv) (some (.int .i64 4)) (some (.int .i64 24)) none).run Tryd.prog w' = .ok (.slice (some ⟨g, o + 4, none⟩) 20 (cv - 4)) w' := run_cutL g o 4096 cv 4 24 (by decide) (by omega) (by omega) hc2
      have hwr : IntKind.i64.wrap 24 = 24 := by decide
      have hcA : (cv = 4) = False := eq_false (by omega)
      have hcB : ((24 : Int) ≤ (cv : Int)) = True := eq_true (by omega)
      have bvc := Lib.hid (BV6.out.cutN 4 20 (by rw [HL.out]; decide))
      have qs : ∀ y : KeepT (fun b => b = X) w6, (convert 22 9 (.slice (some ⟨g, o + 4, none⟩) 20 (cv - 4))).run Tryd.prog y.val = .ok (.string (strOf (cutL l 4 20))) y.val := fun y => str_at (bvc.out.keepX y (fun g' o' n' c' e => by cases e; exact OFF.out _ _ _ _ rfl))
      obtain ⟨m, hm⟩ : ∃ m, stripP blk (cutL l 4 20) = m := ⟨_, rfl⟩
      have HM := Lib.hid hm
      have hst := txC_0 l
      rw [hm] at hst
      have HST := Lib.hid hst
      clear hm hst
      refine wp_region_planW (fun b => b = X) [(true, 0), (true, 1), (true, 2), (true, 3), (true, 4), (true, 5), (true, 6), (true, 7), (true, 8), (true, 9), (true, 10), (true, 11), (false, 12), (true, 13), (false, 14)] (by kernel_rfl) (by kernel_rfl) (by intro c a d v w h; cases d <;> exact h) ?_
      intro W1 K1 C1
      repeat (refine wpS_firm rfl (fun K hK => ?_); simp only [Keep]; go_simp; refine hK _ ?_; clear hK K)
      refine wpS_chain rfl ?_
      go_wp2_with (go_at_call 76; go_loud (refine (trim_at (cutL l 4 20) m _ (by have := cutL_le l 4 20; omega) HM.out).mono ?_; rintro r w7 ⟨rfl, hw⟩; have K2 := Lib.hid (K1.out.below hw); have D7 := Lib.hid (gr_tr C1.out hw); clear hw))
      refine ⟨K2.out, ?_⟩
      repeat (refine wpS_firm rfl (fun K hK => ?_); simp only [Keep]; go_simp; refine hK _ ?_; clear hK K)
      have BX7 := Lib.hid (blk_below BX6.out D7.out)
      have cX := (cell_of_row _ _ 22 _ _ _ BX7.out).trans (show (txC l 0)[22]? = some (.string (strOf [])) from rfl)
      have fX := frozen_of_row _ _ 22 _ _ BX7.out
      refine wpS_chain rfl ?_
      go_wp2
      refine ⟨K2.out.put rfl _, ?_⟩
      unfold wpS
      go_wp2
      go_roundw
      case rel => exact ⟨1, by omega, rfl, by rw [← HST.out]; exact heap_setCell_same _ _ _ _ _ _ BX7.out, (C6.out.trans (Chg.of_below (B := fun b => b = X) D7.out)).trans (Chg.setCell (B := fun b => b = X) (p := ⟨X, 22, none⟩) _ rfl _)⟩
      case measure => simp [intOf]
    · have e : ((1 : Nat) : Int) = 1 := rfl
      rw [e]; clear e
      go_upto_region 4 with (first
        | (refine wpList_index_txt rfl (.tmp 10) (.tmp 11) rfl X rfl 1 rfl #[.pointer (some ⟨X, 23, none⟩), .int .i64 24, .int .i64 40, .int .i64 40] (by simp) ?_)
        | (refine wpList_store_new rfl 156 (.tmp 4) (.tmp 13) rfl #[.pointer (some ⟨X, 23, none⟩), .int .i64 24, .int .i64 40, .int .i64 40] 156 _ rfl rfl (by kernel_rfl) rfl (by simp [Value.oneCell']) ?_; intro w6 hh hb; have HH := Lib.hid hh; have HB6 := Lib.hid hb; clear hh hb))
      have BX6 := Lib.hid (blk_below BX.out HB6.out)
      have C6 := Lib.hid (C.out.trans (Chg.of_below (B := fun b => b = X) HB6.out))
      have BV6 := Lib.hid (BV.out.chg C6.out OFF.out)
      have BB6 := Lib.hid (C6.out.blk BB.out NE.out)
      have hnX : ¬ wr.heap.size = X := by have := C.out.size; have := HXW.out; omega
      have q0 : ∀ y : KeepT (fun b => b = X) w6, y.val.cell? ⟨wr.heap.size, 0, none⟩ = some (.pointer (some ⟨X, 23, none⟩)) := fun y => y.cell (cell_of_row _ _ 0 _ _ _ HH.out) hnX
      have q1 : ∀ y : KeepT (fun b => b = X) w6, y.val.cell? ⟨wr.heap.size, 1, none⟩ = some (.int .i64 24) := fun y => y.cell (cell_of_row _ _ 1 _ _ _ HH.out) hnX
      have q2 : ∀ y : KeepT (fun b => b = X) w6, y.val.cell? ⟨wr.heap.size, 2, none⟩ = some (.int .i64 40) := fun y => y.cell (cell_of_row _ _ 2 _ _ _ HH.out) hnX
      have qb : ∀ y : KeepT (fun b => b = X) w6, y.val.cell? ⟨bbox, 0, none⟩ = some (.slice (some ⟨g, o, none⟩) 4096 cv) := fun y => y.cell ((cell_of_row _ _ 0 _ _ _ BB6.out).trans rfl) NE.out
      have hsl : ∀ w', (Instr.slice 22 (.slice (some ⟨g, o, none⟩) 4096 cv) (some (.int .i64 24)) (some (.int .i64 64)) none).run Tryd.prog w' = .ok (.slice (some ⟨g, o + 24, none⟩) 40 (cv - 24)) w' := run_cutL g o 4096 cv 24 64 (by decide) (by omega) (by omega) hc2
      have hwr : IntKind.i64.wrap 64 = 64 := by decide
      have hcA : (cv = 24) = False := eq_false (by omega)
      have hcB : ((64 : Int) ≤ (cv : Int)) = True := eq_true (by omega)
      have bvc := Lib.hid (BV6.out.cutN 24 40 (by rw [HL.out]; decide))
      have qs : ∀ y : KeepT (fun b => b = X) w6, (convert 22 9 (.slice (some ⟨g, o + 24, none⟩) 40 (cv - 24))).run Tryd.prog y.val = .ok (.string (strOf (cutL l 24 40))) y.val := fun y => str_at (bvc.out.keepX y (fun g' o' n' c' e => by cases e; exact OFF.out _ _ _ _ rfl))
      obtain ⟨m, hm⟩ : ∃ m, stripP blk (cutL l 24 40) = m := ⟨_, rfl⟩
      have HM := Lib.hid hm
      have hst := txC_1 l
      rw [hm] at hst
      have HST := Lib.hid hst
      clear hm hst
      refine wp_region_planW (fun b => b = X) [(true, 0), (true, 1), (true, 2), (true, 3), (true, 4), (true, 5), (true, 6), (true, 7), (true, 8), (true, 9), (true, 10), (true, 11), (false, 12), (true, 13), (false, 14)] (by kernel_rfl) (by kernel_rfl) (by intro c a d v w h; cases d <;> exact h) ?_
      intro W1 K1 C1
      repeat (refine wpS_firm rfl (fun K hK => ?_); simp only [Keep]; go_simp; refine hK _ ?_; clear hK K)
      refine wpS_chain rfl ?_
      go_wp2_with (go_at_call 76; go_loud (refine (trim_at (cutL l 24 40) m _ (by have := cutL_le l 24 40; omega) HM.out).mono ?_; rintro r w7 ⟨rfl, hw⟩; have K2 := Lib.hid (K1.out.below hw); have D7 := Lib.hid (gr_tr C1.out hw); clear hw))
      refine ⟨K2.out, ?_⟩
      repeat (refine wpS_firm rfl (fun K hK => ?_); simp only [Keep]; go_simp; refine hK _ ?_; clear hK K)
      have BX7 := Lib.hid (blk_below BX6.out D7.out)
      have cX := (cell_of_row _ _ 23 _ _ _ BX7.out).trans (show (txC l 1)[23]? = some (.string (strOf [])) from rfl)
      have fX := frozen_of_row _ _ 23 _ _ BX7.out
      refine wpS_chain rfl ?_
      go_wp2
      refine ⟨K2.out.put rfl _, ?_⟩
      unfold wpS
      go_wp2
      go_roundw
      case rel => exact ⟨2, by omega, rfl, by rw [← HST.out]; exact heap_setCell_same _ _ _ _ _ _ BX7.out, (C6.out.trans (Chg.of_below (B := fun b => b = X) D7.out)).trans (Chg.setCell (B := fun b => b = X) (p := ⟨X, 23, none⟩) _ rfl _)⟩
      case measure => simp [intOf]
    · have e : ((2 : Nat) : Int) = 2 := rfl
      rw [e]; clear e
      go_upto_region 4 with (first
        | (refine wpList_index_txt rfl (.tmp 10) (.tmp 11) rfl X rfl 2 rfl #[.pointer (some ⟨X, 24, none⟩), .int .i64 64, .int .i64 8, .int .i64 8] (by simp) ?_)
        | (refine wpList_store_new rfl 156 (.tmp 4) (.tmp 13) rfl #[.pointer (some ⟨X, 24, none⟩), .int .i64 64, .int .i64 8, .int .i64 8] 156 _ rfl rfl (by kernel_rfl) rfl (by simp [Value.oneCell']) ?_; intro w6 hh hb; have HH := Lib.hid hh; have HB6 := Lib.hid hb; clear hh hb))
      have BX6 := Lib.hid (blk_below BX.out HB6.out)
      have C6 := Lib.hid (C.out.trans (Chg.of_below (B := fun b => b = X) HB6.out))
      have BV6 := Lib.hid (BV.out.chg C6.out OFF.out)
      have BB6 := Lib.hid (C6.out.blk BB.out NE.out)
      have hnX : ¬ wr.heap.size = X := by have := C.out.size; have := HXW.out; omega
      have q0 : ∀ y : KeepT (fun b => b = X) w6, y.val.cell? ⟨wr.heap.size, 0, none⟩ = some (.pointer (some ⟨X, 24, none⟩)) := fun y => y.cell (cell_of_row _ _ 0 _ _ _ HH.out) hnX
      have q1 : ∀ y : KeepT (fun b => b = X) w6, y.val.cell? ⟨wr.heap.size, 1, none⟩ = some (.int .i64 64) := fun y => y.cell (cell_of_row _ _ 1 _ _ _ HH.out) hnX
      have q2 : ∀ y : KeepT (fun b => b = X) w6, y.val.cell? ⟨wr.heap.size, 2, none⟩ = some (.int .i64 8) := fun y => y.cell (cell_of_row _ _ 2 _ _ _ HH.out) hnX
      have qb : ∀ y : KeepT (fun b => b = X) w6, y.val.cell? ⟨bbox, 0, none⟩ = some (.slice (some ⟨g, o, none⟩) 4096 cv) := fun y => y.cell ((cell_of_row _ _ 0 _ _ _ BB6.out).trans rfl) NE.out
      have hsl : ∀ w', (Instr.slice 22 (.slice (some ⟨g, o, none⟩) 4096 cv) (some (.int .i64 64)) (some (.int .i64 72)) none).run Tryd.prog w' = .ok (.slice (some ⟨g, o + 64, none⟩) 8 (cv - 64)) w' := run_cutL g o 4096 cv 64 72 (by decide) (by omega) (by omega) hc2
      have hwr : IntKind.i64.wrap 72 = 72 := by decide
      have hcA : (cv = 64) = False := eq_false (by omega)
      have hcB : ((72 : Int) ≤ (cv : Int)) = True := eq_true (by omega)
      have bvc := Lib.hid (BV6.out.cutN 64 8 (by rw [HL.out]; decide))
      have qs : ∀ y : KeepT (fun b => b = X) w6, (convert 22 9 (.slice (some ⟨g, o + 64, none⟩) 8 (cv - 64))).run Tryd.prog y.val = .ok (.string (strOf (cutL l 64 8))) y.val := fun y => str_at (bvc.out.keepX y (fun g' o' n' c' e => by cases e; exact OFF.out _ _ _ _ rfl))
      obtain ⟨m, hm⟩ : ∃ m, stripP blk (cutL l 64 8) = m := ⟨_, rfl⟩
      have HM := Lib.hid hm
      have hst := txC_2 l
      rw [hm] at hst
      have HST := Lib.hid hst
      clear hm hst
      refine wp_region_planW (fun b => b = X) [(true, 0), (true, 1), (true, 2), (true, 3), (true, 4), (true, 5), (true, 6), (true, 7), (true, 8), (true, 9), (true, 10), (true, 11), (false, 12), (true, 13), (false, 14)] (by kernel_rfl) (by kernel_rfl) (by intro c a d v w h; cases d <;> exact h) ?_
      intro W1 K1 C1
      repeat (refine wpS_firm rfl (fun K hK => ?_); simp only [Keep]; go_simp; refine hK _ ?_; clear hK K)
      refine wpS_chain rfl ?_
      go_wp2_with (go_at_call 76; go_loud (refine (trim_at (cutL l 64 8) m _ (by have := cutL_le l 64 8; omega) HM.out).mono ?_; rintro r w7 ⟨rfl, hw⟩; have K2 := Lib.hid (K1.out.below hw); have D7 := Lib.hid (gr_tr C1.out hw); clear hw))
      refine ⟨K2.out, ?_⟩
      repeat (refine wpS_firm rfl (fun K hK => ?_); simp only [Keep]; go_simp; refine hK _ ?_; clear hK K)
      have BX7 := Lib.hid (blk_below BX6.out D7.out)
      have cX := (cell_of_row _ _ 24 _ _ _ BX7.out).trans (show (txC l 2)[24]? = some (.string (strOf [])) from rfl)
      have fX := frozen_of_row _ _ 24 _ _ BX7.out
      refine wpS_chain rfl ?_
      go_wp2
      refine ⟨K2.out.put rfl _, ?_⟩
      unfold wpS
      go_wp2
      go_roundw
      case rel => exact ⟨3, by omega, rfl, by rw [← HST.out]; exact heap_setCell_same _ _ _ _ _ _ BX7.out, (C6.out.trans (Chg.of_below (B := fun b => b = X) D7.out)).trans (Chg.setCell (B := fun b => b = X) (p := ⟨X, 24, none⟩) _ rfl _)⟩
      case measure => simp [intOf]
    · have e : ((3 : Nat) : Int) = 3 := rfl
      rw [e]; clear e
      go_upto_region 4 with (first
        | (refine wpList_index_txt rfl (.tmp 10) (.tmp 11) rfl X rfl 3 rfl #[.pointer (some ⟨X, 25, none⟩), .int .i64 768, .int .i64 256, .int .i64 223] (by simp) ?_)
        | (refine wpList_store_new rfl 156 (.tmp 4) (.tmp 13) rfl #[.pointer (some ⟨X, 25, none⟩), .int .i64 768, .int .i64 256, .int .i64 223] 156 _ rfl rfl (by kernel_rfl) rfl (by simp [Value.oneCell']) ?_; intro w6 hh hb; have HH := Lib.hid hh; have HB6 := Lib.hid hb; clear hh hb))
      have BX6 := Lib.hid (blk_below BX.out HB6.out)
      have C6 := Lib.hid (C.out.trans (Chg.of_below (B := fun b => b = X) HB6.out))
      have BV6 := Lib.hid (BV.out.chg C6.out OFF.out)
      have BB6 := Lib.hid (C6.out.blk BB.out NE.out)
      have hnX : ¬ wr.heap.size = X := by have := C.out.size; have := HXW.out; omega
      have q0 : ∀ y : KeepT (fun b => b = X) w6, y.val.cell? ⟨wr.heap.size, 0, none⟩ = some (.pointer (some ⟨X, 25, none⟩)) := fun y => y.cell (cell_of_row _ _ 0 _ _ _ HH.out) hnX
      have q1 : ∀ y : KeepT (fun b => b = X) w6, y.val.cell? ⟨wr.heap.size, 1, none⟩ = some (.int .i64 768) := fun y => y.cell (cell_of_row _ _ 1 _ _ _ HH.out) hnX
      have q2 : ∀ y : KeepT (fun b => b = X) w6, y.val.cell? ⟨wr.heap.size, 2, none⟩ = some (.int .i64 256) := fun y => y.cell (cell_of_row _ _ 2 _ _ _ HH.out) hnX
      have qb : ∀ y : KeepT (fun b => b = X) w6, y.val.cell? ⟨bbox, 0, none⟩ = some (.slice (some ⟨g, o, none⟩) 4096 cv) := fun y => y.cell ((cell_of_row _ _ 0 _ _ _ BB6.out).trans rfl) NE.out
      have hsl : ∀ w', (Instr.slice 22 (.slice (some ⟨g, o, none⟩) 4096 cv) (some (.int .i64 768)) (some (.int .i64 1024)) none).run Tryd.prog w' = .ok (.slice (some ⟨g, o + 768, none⟩) 256 (cv - 768)) w' := run_cutL g o 4096 cv 768 1024 (by decide) (by omega) (by omega) hc2
      have hwr : IntKind.i64.wrap 1024 = 1024 := by decide
      have hcA : (cv = 768) = False := eq_false (by omega)
      have hcB : ((1024 : Int) ≤ (cv : Int)) = True := eq_true (by omega)
      have bvc := Lib.hid (BV6.out.cutN 768 256 (by rw [HL.out]; decide))
      have qs : ∀ y : KeepT (fun b => b = X) w6, (convert 22 9 (.slice (some ⟨g, o + 768, none⟩) 256 (cv - 768))).run Tryd.prog y.val = .ok (.string (strOf (cutL l 768 256))) y.val := fun y => str_at (bvc.out.keepX y (fun g' o' n' c' e => by cases e; exact OFF.out _ _ _ _ rfl))
      obtain ⟨m, hm⟩ : ∃ m, stripP blk (cutL l 768 256) = m := ⟨_, rfl⟩
      have HM := Lib.hid hm
      have hst := txC_3 l
      rw [hm] at hst
      have HST := Lib.hid hst
      clear hm hst
      refine wp_region_planW (fun b => b = X) [(true, 0), (true, 1), (true, 2), (true, 3), (true, 4), (true, 5), (true, 6), (true, 7), (true, 8), (true, 9), (true, 10), (true, 11), (false, 12), (true, 13), (false, 14)] (by kernel_rfl) (by kernel_rfl) (by intro c a d v w h; cases d <;> exact h) ?_
      intro W1 K1 C1
      repeat (refine wpS_firm rfl (fun K hK => ?_); simp only [Keep]; go_simp; refine hK _ ?_; clear hK K)
      refine wpS_chain rfl ?_
      go_wp2_with (go_at_call 76; go_loud (refine (trim_at (cutL l 768 256) m _ (by have := cutL_le l 768 256; omega) HM.out).mono ?_; rintro r w7 ⟨rfl, hw⟩; have K2 := Lib.hid (K1.out.below hw); have D7 := Lib.hid (gr_tr C1.out hw); clear hw))
      refine ⟨K2.out, ?_⟩
      repeat (refine wpS_firm rfl (fun K hK => ?_); simp only [Keep]; go_simp; refine hK _ ?_; clear hK K)
      have BX7 := Lib.hid (blk_below BX6.out D7.out)
      have cX := (cell_of_row _ _ 25 _ _ _ BX7.out).trans (show (txC l 3)[25]? = some (.string (strOf [])) from rfl)
      have fX := frozen_of_row _ _ 25 _ _ BX7.out
      refine wpS_chain rfl ?_
      go_wp2
      refine ⟨K2.out.put rfl _, ?_⟩
      unfold wpS
      go_wp2
      go_roundw
      case rel => exact ⟨4, by omega, rfl, by rw [← HST.out]; exact heap_setCell_same _ _ _ _ _ _ BX7.out, (C6.out.trans (Chg.of_below (B := fun b => b = X) D7.out)).trans (Chg.setCell (B := fun b => b = X) (p := ⟨X, 25, none⟩) _ rfl _)⟩
      case measure => simp [intOf]
    · have e : ((4 : Nat) : Int) = 4 := rfl
      rw [e]; clear e
      go_wp2
      go_end0
      exact ⟨rfl, by rw [← txC_4]; exact BX.out, C.out⟩
theorem EncCt_ok (x : Ctl) (w : World) (hg : ctlGood x) (h : ctlOk x = true) : Calls Tryd.prog 32 #[.agg (Ctl.cells x).toArray] w fun e w' => ∃ u, e = .returned (.tuple #[u, .int .i64 0]) ∧ BytesV w' u (ctlB x) ∧ Below w.heap.size w w' := by
  refine (EncC_at x w hg).mono ?_
  rintro r w' ⟨u, rfl, hu, hw⟩
  unfold ctlE ctlR at *
  rw [if_pos h] at hu
  rw [if_pos h]
  exact ⟨u, rfl, hu, hw⟩
theorem EncCt_no (x : Ctl) (w : World) (hg : ctlGood x) (h : ctlOk x = false) : Calls Tryd.prog 32 #[.agg (Ctl.cells x).toArray] w fun e w' => ∃ u, e = .returned (.tuple #[u, .int .i64 2]) ∧ BytesV w' u [] ∧ Below w.heap.size w w' := by
  refine (EncC_at x w hg).mono ?_
  rintro r w' ⟨u, rfl, hu, hw⟩
  unfold ctlE ctlR at *
  rw [h] at hu ⊢
  exact ⟨u, rfl, hu, hw⟩
set_option maxRecDepth 100000 in
theorem Ctl_lit : (Ctl.cells ctlZ).toArray = #[.int .u16 0, .int .u16 0, .int .u8 0, .int .u16 0, .int .u32 0, .int .u16 0, .int .u8 0, .int .u8 0, .int .u8 0, .int .u8 0, .int .u8 0, .int .u8 0, .int .u16 0, .int .u8 0, .int .u8 0, .int .u16 0, .int .u32 0, .int .u16 0, .int .u8 0, .int .u16 0, .int .u16 0, .int .u32 0, .string ⟨#[]⟩, .string ⟨#[]⟩, .string ⟨#[]⟩, .string ⟨#[]⟩] := by rfl
set_option maxHeartbeats 6400000 in
set_option maxRecDepth 100000 in
theorem decoded_Ctl (l : List (BitVec 8)) (bv : Value) (bbox : Nat) (w : World) (y : Ctl) (e : Int) (hb : BytesV w bv l) (hl : l.length ≤ 140737488355328) (hbb : w.heap[bbox]? = some (.cells #[bv] 22 (0, 0))) (hd : decV (rdC blk blk) ctlOk ctlB ctlZ l = (y, e)) :
    Calls Tryd.prog 71 #[bv, .func (.func 72) #[] #[.pointer (some ⟨bbox, 0, none⟩)], .func (.func 32) #[] #[]] w fun r w' => r = .returned (.tuple #[.agg (Ctl.cells y).toArray, .int .i64 e]) ∧ Below w.heap.size w w' := by
  obtain ⟨av, cv, rfl, hv0, hv1, hv2, hv3⟩ := id hb
  have hm : l.length ≤ 9223372036854775807 := by omega
  have BV := Lib.hid hb; have BB := Lib.hid hbb
  have SctlZ := Lib.hid (show (Ctl.cells ctlZ).toArray.size = 26 by rw [Ctl_lit]; rfl)
  obtain ⟨V, hV⟩ : ∃ V, V = w.alloc (.cells (Ctl.cells ctlZ).toArray 38) := ⟨_, rfl⟩
  have DV := Lib.hid (show Below w.heap.size w V by rw [hV]; exact gr_alloc w _)
  have XV := Lib.hid (show V.heap[w.heap.size]? = some (.cells (Ctl.cells ctlZ).toArray 38 (0, 0)) by rw [hV]; exact heap_alloc_new w _)
  have VS := Lib.hid (show w.heap.size < V.heap.size by rw [hV]; simp)
  rw [Ctl_lit] at hV
  have HV := Lib.hid hV
  clear hb hbb hv0 hv1 hv2 hv3 hV
  unfold decV at hd
  by_cases p1 : l.length < 4096
  · rw [if_pos p1] at hd
    cases hd
    have d1 : decide ((l.length : Int) < 4096) = true := decide_eq_true (by omega)
    clear p1
    go_enter Tryd.func71, Tryd.ntmps71
    go_upto_region 1 with (fail)
    rw [← HV.out]
    go_wp2_with (first
      | (refine wpList_load_row rfl 38 (.tmp 6) rfl w.heap.size rfl 38 _ (0, 0) _ XV.out Tryd.underlying38 rfl (by rw [SctlZ.out]; kernel_rfl) ?_)
      | (refine wpList_store_row rfl 38 (.tmp 6) (.tmp 15) rfl w.heap.size (Ctl.cells ctlZ).toArray rfl rfl 38 _ XV.out (by rw [SctlZ.out]; kernel_rfl) rfl (Ctl.cells_one _) ?_))
    exact bodyPost_ret (results_row_tmp rfl _ _ w.heap.size 38 (Ctl.cells ctlZ).toArray (0, 0) _ rfl (setRow_heap _ _ _ _ _ _ XV.out) Tryd.underlying38 rfl (by rw [SctlZ.out]; kernel_rfl)) rfl ⟨rfl, below_setRow DV.out (Nat.le_refl _) _⟩
  · rw [if_neg p1] at hd
    by_cases p2 : 4096 < l.length
    · rw [if_pos p2] at hd
      cases hd
      have d1 : decide ((l.length : Int) < 4096) = false := decide_eq_false (by omega)
      have d2 : decide (4096 < (l.length : Int)) = true := decide_eq_true (by omega)
      clear p1 p2
      go_enter Tryd.func71, Tryd.ntmps71
      go_upto_region 1 with (fail)
      rw [← HV.out]
      go_wp2_with (first
        | (refine wpList_load_row rfl 38 (.tmp 6) rfl w.heap.size rfl 38 _ (0, 0) _ XV.out Tryd.underlying38 rfl (by rw [SctlZ.out]; kernel_rfl) ?_)
        | (refine wpList_store_row rfl 38 (.tmp 6) (.tmp 20) rfl w.heap.size (Ctl.cells ctlZ).toArray rfl rfl 38 _ XV.out (by rw [SctlZ.out]; kernel_rfl) rfl (Ctl.cells_one _) ?_))
      exact bodyPost_ret (results_row_tmp rfl _ _ w.heap.size 38 (Ctl.cells ctlZ).toArray (0, 0) _ rfl (setRow_heap _ _ _ _ _ _ XV.out) Tryd.underlying38 rfl (by rw [SctlZ.out]; kernel_rfl)) rfl ⟨rfl, below_setRow DV.out (Nat.le_refl _) _⟩
    · rw [if_neg p2] at hd
      have d1 : decide ((l.length : Int) < 4096) = false := decide_eq_false (by omega)
      have d2 : decide (4096 < (l.length : Int)) = false := decide_eq_false (by omega)
      have hl4 : l.length = 4096 := by omega
      have HD := Lib.hid hd; have HL4 := Lib.hid hl4
      clear p1 p2 hd hl4
      obtain ⟨x, hx⟩ : ∃ x, (rdC blk blk) l = x := ⟨_, rfl⟩
      have HX := Lib.hid hx
      have SZX := Lib.hid (show (Ctl.cells x).toArray.size = 26 by rfl)
      clear hx
      obtain ⟨bo, hbo⟩ : ∃ b, ctlOk x = b := ⟨_, rfl⟩
      have HO := Lib.hid hbo; clear hbo
      obtain ⟨W, hW⟩ : ∃ W, W = V.alloc (.cells (Ctl.cells ctlZ).toArray 38) := ⟨_, rfl⟩
      have D := Lib.hid (show Below w.heap.size w W by rw [hW]; exact gr_tr DV.out (gr_alloc V _))
      have XA := Lib.hid (show W.heap[w.heap.size]? = some (.cells (Ctl.cells ctlZ).toArray 38 (0, 0)) by rw [hW]; exact blk_below XV.out (gr_alloc V _))
      have XB := Lib.hid (show W.heap[V.heap.size]? = some (.cells (Ctl.cells ctlZ).toArray 38 (0, 0)) by rw [hW]; exact heap_alloc_new V _)
      rw [Ctl_lit] at hW
      have HW := Lib.hid hW; clear hW
      have HBW := Lib.hid (Array.getElem?_eq_some_iff.1 BB.out).1
      have hgl : ∀ g o n c, Value.slice av l.length cv = .slice (some ⟨g, o, none⟩) n c → g < w.heap.size := slice_lt BV.out (by rw [HL4.out]; decide)
      have GL := Lib.hid hgl; clear hgl
      go_enter Tryd.func71, Tryd.ntmps71
      go_upto_region 1 with (fail)
      rw [← HV.out]
      go_upto_region 6 with (fail)
      rw [← HW.out]
      go_upto_region 7 with (go_at_call 72; go_loud (refine (readCt_at V.heap.size bbox _ l _ (BV.out.below D.out) HL4.out (blk_below BB.out D.out) (fun g o n c e h => by have := GL.out g o n c e; have := VS.out; omega) (fun h => by have := HBW.out; have := VS.out; omega) XB.out).mono ?_; rw [HX.out]; rintro r w3 ⟨rfl, hx3, hc⟩; have X3 := Lib.hid hx3; have C3 := Lib.hid hc; have D3 := Lib.hid (hc.fresh D.out (fun k h => by have := VS.out; omega)); have A3 := Lib.hid (hc.blk XA.out (by have := VS.out; omega)); have BV3 := Lib.hid (BV.out.below D3.out); clear hx3 hc))
      cases bo
      · have EN := Lib.hid (fun W => EncCt_no x W (by rw [← HX.out]; exact rdC_good _ _ l) HO.out)
        go_wp2_with (first
          | (refine wpList_load_row rfl 38 (.tmp 8) rfl V.heap.size rfl 38 _ (0, 0) _ X3.out Tryd.underlying38 rfl (by rw [SZX.out]; kernel_rfl) ?_)
          | (refine wpList_load_row rfl 38 (.tmp 6) rfl w.heap.size rfl 38 _ (0, 0) _ A4.out Tryd.underlying38 rfl (by rw [SctlZ.out]; kernel_rfl) ?_)
          | (refine wpList_store_row rfl 38 (.tmp 6) (.tmp 37) rfl w.heap.size (Ctl.cells ctlZ).toArray rfl rfl 38 _ A4.out (by rw [SctlZ.out]; kernel_rfl) rfl (Ctl.cells_one _) ?_)
          | (go_at_call 32; go_loud (refine (EN.out _).mono ?_; rintro r w4 ⟨u, rfl, hu, hw⟩; have U := Lib.hid hu; have D4 := Lib.hid (gr_tr D3.out hw); have A4 := Lib.hid (blk_below A3.out hw); have X4 := Lib.hid (blk_below X3.out hw); have BV4 := Lib.hid (BV3.out.below hw); clear hu hw)))
        obtain ⟨e1, e2⟩ : y = ctlZ ∧ e = 6 := by
          have h := HD.out
          rw [HX.out, HO.out] at h
          simp at h
          exact ⟨h.1.symm, h.2.symm⟩
        rw [e1, e2]
        exact bodyPost_ret (results_row_tmp rfl _ _ w.heap.size 38 (Ctl.cells ctlZ).toArray (0, 0) _ rfl (setRow_heap _ _ _ _ _ _ A4.out) Tryd.underlying38 rfl (by rw [SctlZ.out]; kernel_rfl)) rfl ⟨rfl, below_setRow D4.out (Nat.le_refl _) _⟩
      · have EN := Lib.hid (fun W => EncCt_ok x W (by rw [← HX.out]; exact rdC_good _ _ l) HO.out)
        obtain ⟨bq, hbq⟩ : ∃ b, (ctlB x == l) = b := ⟨_, rfl⟩
        have HQ := Lib.hid hbq; clear hbq
        cases bq
        · skip
          go_wp2_with (first
            | (refine wpList_load_row rfl 38 (.tmp 8) rfl V.heap.size rfl 38 _ (0, 0) _ X3.out Tryd.underlying38 rfl (by rw [SZX.out]; kernel_rfl) ?_)
            | (refine wpList_load_row rfl 38 (.tmp 6) rfl w.heap.size rfl 38 _ (0, 0) _ A4.out Tryd.underlying38 rfl (by rw [SctlZ.out]; kernel_rfl) ?_)
            | (refine wpList_store_row rfl 38 (.tmp 6) (.tmp 37) rfl w.heap.size (Ctl.cells ctlZ).toArray rfl rfl 38 _ A4.out (by rw [SctlZ.out]; kernel_rfl) rfl (Ctl.cells_one _) ?_)
            | (go_at_call 32; go_loud (refine (EN.out _).mono ?_; rintro r w4 ⟨u, rfl, hu, hw⟩; have U := Lib.hid hu; have D4 := Lib.hid (gr_tr D3.out hw); have A4 := Lib.hid (blk_below A3.out hw); have X4 := Lib.hid (blk_below X3.out hw); have BV4 := Lib.hid (BV3.out.below hw); clear hu hw))
            | (go_at_call 128; go_loud (refine (Equal_at _ _ _ _ _ _ U.out BV4.out HQ.out).mono ?_; rintro r w5 ⟨rfl, rfl⟩)))
          obtain ⟨e1, e2⟩ : y = ctlZ ∧ e = 6 := by
            have h := HD.out
            rw [HX.out, HO.out, HQ.out] at h
            simp at h
            exact ⟨h.1.symm, h.2.symm⟩
          rw [e1, e2]
          exact bodyPost_ret (results_row_tmp rfl _ _ w.heap.size 38 (Ctl.cells ctlZ).toArray (0, 0) _ rfl (setRow_heap _ _ _ _ _ _ A4.out) Tryd.underlying38 rfl (by rw [SctlZ.out]; kernel_rfl)) rfl ⟨rfl, below_setRow D4.out (Nat.le_refl _) _⟩
        · skip
          go_wp2_with (first
            | (refine wpList_load_row rfl 38 (.tmp 8) rfl V.heap.size rfl 38 _ (0, 0) _ X3.out Tryd.underlying38 rfl (by rw [SZX.out]; kernel_rfl) ?_)
            | (refine wpList_load_row rfl 38 (.tmp 8) rfl V.heap.size rfl 38 _ (0, 0) _ X4.out Tryd.underlying38 rfl (by rw [SZX.out]; kernel_rfl) ?_)
            | (refine wpList_store_row rfl 38 (.tmp 6) (.tmp 38) rfl w.heap.size (Ctl.cells x).toArray rfl rfl 38 _ A4.out (by rw [SZX.out]; kernel_rfl) (by rw [SZX.out, SctlZ.out]) (Ctl.cells_one _) ?_)
            | (go_at_call 32; go_loud (refine (EN.out _).mono ?_; rintro r w4 ⟨u, rfl, hu, hw⟩; have U := Lib.hid hu; have D4 := Lib.hid (gr_tr D3.out hw); have A4 := Lib.hid (blk_below A3.out hw); have X4 := Lib.hid (blk_below X3.out hw); have BV4 := Lib.hid (BV3.out.below hw); clear hu hw))
            | (go_at_call 128; go_loud (refine (Equal_at _ _ _ _ _ _ U.out BV4.out HQ.out).mono ?_; rintro r w5 ⟨rfl, rfl⟩)))
          obtain ⟨e1, e2⟩ : y = x ∧ e = 0 := by
            have h := HD.out
            rw [HX.out, HO.out, HQ.out] at h
            simp at h
            exact ⟨h.1.symm, h.2.symm⟩
          rw [e1, e2]
          exact bodyPost_ret (results_row_tmp rfl _ _ w.heap.size 38 (Ctl.cells x).toArray (0, 0) _ rfl (setRow_heap _ _ _ _ _ _ A4.out) Tryd.underlying38 rfl (by rw [SZX.out]; kernel_rfl)) rfl ⟨rfl, below_setRow D4.out (Nat.le_refl _) _⟩
set_option maxHeartbeats 6400000 in
set_option maxRecDepth 100000 in
theorem Decode_Ctl (l : List (BitVec 8)) (bv : Value) (w : World) (y : Ctl) (e : Int) (hsz : (Ctl.cells y).toArray.size = 26) (hb : BytesV w bv l) (hl : l.length ≤ 140737488355328) (hd : decV (rdC blk blk) ctlOk ctlB ctlZ l = (y, e)) :
    Calls Tryd.prog 23 #[bv] w fun r w' => r = .returned (.tuple #[.agg (Ctl.cells y).toArray, .int .i64 e]) ∧ Below w.heap.size w w' := by
  have hmf : ∀ (fn : Fn) (first cap : Array Value) (w : World), (Instr.makeFunc fn first cap).run Tryd.prog w = .ok (.func fn first cap) w := fun _ _ _ _ => rfl
  obtain ⟨av, cv, rfl, hv0, hv1, hv2, hv3⟩ := id hb
  have SctlZ := Lib.hid (show (Ctl.cells ctlZ).toArray.size = 26 by rw [Ctl_lit]; rfl)
  have HSZ := Lib.hid hsz
  clear hsz
  obtain ⟨bv, hbv⟩ : ∃ v, v = Value.slice av l.length cv := ⟨_, rfl⟩
  have BV := Lib.hid (show BytesV w bv l by rw [hbv]; exact hb); have HD := Lib.hid hd
  rw [← hbv]
  clear hv0 hv1 hv2 hv3
  obtain ⟨W, hW⟩ : ∃ W, W = (w.alloc (.cells #[bv] 22)).alloc (.cells (Ctl.cells ctlZ).toArray 38) := ⟨_, rfl⟩
  have D := Lib.hid (show Below w.heap.size w W by rw [hW]; exact gr_tr (gr_alloc w _) (gr_alloc _ _))
  have BB := Lib.hid (show W.heap[w.heap.size]? = some (.cells #[bv] 22 (0, 0)) by rw [hW]; exact blk_below (heap_alloc_new w _) (gr_alloc _ _))
  have XB := Lib.hid (show W.heap[w.heap.size + 1]? = some (.cells (Ctl.cells ctlZ).toArray 38 (0, 0)) by rw [hW]; have := heap_alloc_new (w.alloc (.cells #[bv] 22)) (.cells (Ctl.cells ctlZ).toArray 38); rwa [World.size_alloc] at this)
  rw [Ctl_lit] at hW
  have HW := Lib.hid hW
  have cb : W.cell? ⟨w.heap.size, 0, none⟩ = some bv := (cell_of_row _ _ 0 _ _ _ BB.out).trans rfl
  have HBV := Lib.hid hbv
  clear hW hb hd
  rw [HBV.out] at HW BV BB cb ⊢
  clear hbv
  go_enter Tryd.func23, Tryd.ntmps23
  go_upto_region 1 with (fail)
  rw [← HW.out]
  go_wp2_with (first
    | (go_at_call 71; go_loud (refine (decoded_Ctl l _ w.heap.size _ y e (BV.out.below D.out) hl BB.out HD.out).mono ?_; rintro r w3 ⟨rfl, hw⟩; have D3 := Lib.hid (gr_tr D.out hw); have X3 := Lib.hid (blk_below XB.out hw); clear hw))
    | (refine wpList_store_row rfl 38 (.tmp 2) (.tmp 7) rfl (w.heap.size + 1) (Ctl.cells y).toArray rfl rfl 38 _ X3.out (by rw [HSZ.out]; kernel_rfl) (by rw [HSZ.out, SctlZ.out]) (Ctl.cells_one _) ?_))
  exact bodyPost_ret (results_row_tmp rfl _ _ (w.heap.size + 1) 38 (Ctl.cells y).toArray (0, 0) _ rfl (setRow_heap _ _ _ _ _ _ X3.out) Tryd.underlying38 rfl (by rw [HSZ.out]; kernel_rfl)) rfl ⟨rfl, below_setRow D3.out (by omega) _⟩
end Go.Proofs.YthnnopjakpjoeaaDoor
