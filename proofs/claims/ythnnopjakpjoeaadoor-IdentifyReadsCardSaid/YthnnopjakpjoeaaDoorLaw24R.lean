/- The law IdentifyReads: the walk. Printed by genlaw24r.py. -/
import Derived.Test.YthnnopjakpjoeaaDoorLaw24B
import Derived.Test.YthnnopjakpjoeaaDoorRefC
import Derived.Test.YthnnopjakpjoeaaDoorSelfEq
import Derived.Test.YthnnopjakpjoeaaDoorSpoil
namespace Go.Proofs.YthnnopjakpjoeaaDoor
open Go.RowKit Idn
set_option linter.unusedVariables false
set_option linter.unusedSimpArgs false
set_option maxHeartbeats 1600000 in
set_option maxRecDepth 100000 in
theorem ctl_eql (x : Ctl) (w : World) : (binOp .eql 38 (.agg (Ctl.cells x).toArray) (.agg (Ctl.cells x).toArray)).run Tryd.prog w = .ok (.bool true) w := by
  refine eql_self (fun w => self_struct (by kernel_rfl) (by kernel_rfl) ?_ w) w
  rw [show Tryd.prog.fieldsOf 38 = _ from by unfold Program.fieldsOf; rw [Tryd.underlying38]]
  simp only [List.forall_mem_cons, List.not_mem_nil, false_implies, implies_true, and_true]
  refine ⟨?_, ?_, ?_, ?_, ?_, ?_, ?_, ?_, ?_, ?_, ?_, ?_, ?_, ?_, ?_, ?_, ?_, ?_, ?_, ?_, ?_, ?_, ?_, ?_, ?_, ?_⟩
  · exact selfAt_int (d := 9998) (k := .u16) (a := uv x.vendor) Tryd.underlying36 rfl
  · exact selfAt_int (d := 9998) (k := .u16) (a := uv x.subvendor) Tryd.underlying36 rfl
  · exact selfAt_int (d := 9998) (k := .u8) (a := uv x.maxTransfer) Tryd.underlying5 rfl
  · exact selfAt_int (d := 9998) (k := .u16) (a := uv x.controller) Tryd.underlying36 rfl
  · exact selfAt_int (d := 9998) (k := .u32) (a := uv x.version) Tryd.underlying24 rfl
  · exact selfAt_int (d := 9998) (k := .u16) (a := uv x.admin) Tryd.underlying36 rfl
  · exact selfAt_int (d := 9998) (k := .u8) (a := uv x.aborts) Tryd.underlying5 rfl
  · exact selfAt_int (d := 9998) (k := .u8) (a := uv x.events) Tryd.underlying5 rfl
  · exact selfAt_int (d := 9998) (k := .u8) (a := uv x.firmware) Tryd.underlying5 rfl
  · exact selfAt_int (d := 9998) (k := .u8) (a := uv x.logs) Tryd.underlying5 rfl
  · exact selfAt_int (d := 9998) (k := .u8) (a := uv x.errors) Tryd.underlying5 rfl
  · exact selfAt_int (d := 9998) (k := .u8) (a := uv x.powers) Tryd.underlying5 rfl
  · exact selfAt_int (d := 9998) (k := .u16) (a := uv x.keepAlive) Tryd.underlying36 rfl
  · exact selfAt_int (d := 9998) (k := .u8) (a := uv x.entrySizes) Tryd.underlying5 rfl
  · exact selfAt_int (d := 9998) (k := .u8) (a := uv x.responseSizes) Tryd.underlying5 rfl
  · exact selfAt_int (d := 9998) (k := .u16) (a := uv x.commands) Tryd.underlying36 rfl
  · exact selfAt_int (d := 9998) (k := .u32) (a := uv x.namespaces) Tryd.underlying24 rfl
  · exact selfAt_int (d := 9998) (k := .u16) (a := uv x.optional) Tryd.underlying36 rfl
  · exact selfAt_int (d := 9998) (k := .u8) (a := uv x.cache) Tryd.underlying5 rfl
  · exact selfAt_int (d := 9998) (k := .u16) (a := uv x.atomic) Tryd.underlying36 rfl
  · exact selfAt_int (d := 9998) (k := .u16) (a := uv x.powerAtomic) Tryd.underlying36 rfl
  · exact selfAt_int (d := 9998) (k := .u32) (a := uv x.lists) Tryd.underlying24 rfl
  · exact selfAt_str (d := 9998) (a := strOf x.serial) Tryd.underlying9 rfl
  · exact selfAt_str (d := 9998) (a := strOf x.model) Tryd.underlying9 rfl
  · exact selfAt_str (d := 9998) (a := strOf x.revision) Tryd.underlying9 rfl
  · exact selfAt_str (d := 9998) (a := strOf x.name) Tryd.underlying9 rfl
theorem ctlR_at (x : Ctl) : ∃ B, ctlR x = B ∧ B.length ≤ 4096 := by
  refine ⟨_, rfl, ?_⟩
  unfold ctlR
  cases h : ctlOk x
  · simp
  · rw [if_pos rfl, ctlB_len x h]; exact Nat.le_refl _
theorem shortC_good {x : Ctl} (h : shortC x = true) : ctlGood x := by unfold shortC at h; simpa [ctlGood] using h
set_option maxHeartbeats 6400000 in
set_option maxRecDepth 100000 in
theorem lawReads (x : Ctl) (at' more : Int) (by' : BitVec 8) (w : World) (ha : -9223372036854775808 ≤ at' ∧ at' ≤ 9223372036854775807) (hm : -9223372036854775808 ≤ more ∧ more ≤ 9223372036854775807) :
    Calls Tryd.prog 4 #[.agg (Ctl.cells x).toArray, .agg #[.int .i64 at', .int .u8 (uv by'), .int .i64 more]] w fun e w' => e = .returned (.bool true) ∧ Below w.heap.size w w' := by
  obtain ⟨W, hW⟩ : ∃ W, W = (w.alloc (.cells (Ctl.cells x).toArray 38)).alloc (.cells #[.int .i64 at', .int .u8 (uv by'), .int .i64 more] 40) := ⟨_, rfl⟩
  have D := Lib.hid (show Below w.heap.size w W by rw [hW]; exact gr_tr (gr_alloc w _) (gr_alloc _ _))
  have XA := Lib.hid (show W.heap[w.heap.size]? = some (.cells (Ctl.cells x).toArray 38 (0, 0)) by rw [hW]; exact blk_below (heap_alloc_new w _) (gr_alloc _ _))
  have XS := Lib.hid (show W.heap[w.heap.size + 1]? = some (.cells #[.int .i64 at', .int .u8 (uv by'), .int .i64 more] 40 (0, 0)) by rw [hW]; have := heap_alloc_new (w.alloc (.cells (Ctl.cells x).toArray 38)) (.cells #[.int .i64 at', .int .u8 (uv by'), .int .i64 more] 40); rwa [World.size_alloc] at this)
  obtain ⟨cs, hcs⟩ : ∃ cs, (Ctl.cells x).toArray = cs := ⟨_, rfl⟩
  have HCS := Lib.hid hcs
  have SZ := Lib.hid (show cs.size = 26 by rw [← hcs]; rfl)
  rw [hcs] at hW XA ⊢
  have HW := Lib.hid hW
  obtain ⟨B, hB, hBl⟩ := ctlR_at x
  have HB := Lib.hid hB; have HBL := Lib.hid hBl; have HA := Lib.hid ha; have HM := Lib.hid hm
  obtain ⟨b, hb⟩ : ∃ b, shortC x = b := ⟨_, rfl⟩
  have HS := Lib.hid hb
  clear hW hB hBl ha hm hcs hb
  go_enter Tryd.func4, Tryd.ntmps4
  go_upto_region 1 with (fail)
  first
    | rw [← HW.out]
    | (show Code.wp _ _ _ _ ((w.alloc (.cells cs 38)).alloc (.cells #[.int .i64 at', .int .u8 (uv by'), .int .i64 more] 40)); rw [← HW.out])
  cases b
  · go_wp2_with (first
      | (refine wpList_load_row rfl 38 (.tmp 2) rfl w.heap.size rfl 38 cs (0, 0) _ XA.out Tryd.underlying38 rfl (by rw [SZ.out]; kernel_rfl) ?_)
      | (go_at_call 19; go_loud (rw [← HCS.out]; refine (short_at x false _ HS.out).mono ?_; rintro r w1 ⟨rfl, hw⟩; have D1 := Lib.hid (gr_tr D.out hw); clear hw))
      | (go_at_call 20; go_loud (refine (known_any _).mono ?_; rintro r wk ⟨rfl, hw⟩; have D2 := Lib.hid (gr_tr D1.out hw); clear hw)))
    go_ret
    exact ⟨rfl, D2.out⟩
  · go_upto_region 6 with (first
      | (refine wpList_load_row rfl 38 (.tmp 2) rfl w.heap.size rfl 38 cs (0, 0) _ XA.out Tryd.underlying38 rfl (by rw [SZ.out]; kernel_rfl) ?_)
      | (refine wpList_load_row rfl 40 (.tmp 3) rfl (w.heap.size + 1) rfl 40 _ (0, 0) _ XS.out Tryd.underlying40 rfl (by kernel_rfl) ?_)
      | (go_at_call 19; go_loud (rw [← HCS.out]; refine (short_at x true _ HS.out).mono ?_; rintro r w1 ⟨rfl, hw⟩; replace XA := Lib.hid (blk_below XA.out hw); replace XS := Lib.hid (blk_below XS.out hw); replace D := Lib.hid (gr_tr D.out hw); clear hw))
      | (go_at_call 21; go_loud (rw [← HCS.out]; refine (rEncC_at x _ (shortC_good HS.out)).mono ?_; rw [HB.out]; rintro r w1 ⟨u, rfl, hu, hw⟩; replace XS := Lib.hid (blk_below XS.out hw); have A := Lib.hid hu; replace D := Lib.hid (gr_tr D.out hw); clear hw hu))
      | (go_at_call 22; go_loud (refine (spoil_any _ B at' more by' _ A.out (by have := HBL.out; omega) HA.out HM.out).mono ?_; rintro r w5 ⟨bv, l, rfl, hv, hl, hw⟩; have BV := Lib.hid hv; have HL := Lib.hid (show l.length ≤ 140737488355328 by have := HBL.out; omega); replace D := Lib.hid (gr_tr D.out hw); clear hw hv hl))
      | (go_at_call 18; go_loud (refine (Own_any _ l _ BV.out HL.out).mono ?_; rintro r w6 ⟨ov, rfl, ho, hw⟩; have OV := Lib.hid (BytesV.of_own ho); replace BV := Lib.hid (BV.out.below hw); replace D := Lib.hid (gr_tr D.out hw); clear ho hw)))
    obtain ⟨y, e, hye⟩ : ∃ y e, decV (rdC blk blk) ctlOk ctlB ctlZ l = (y, e) := ⟨_, _, rfl⟩
    have HYE := Lib.hid hye
    have HYR := Lib.hid (show decV (rdC is32 is0) ctlOk ctlB ctlZ l = (y, e) by rw [dec_ctl]; exact hye)
    have heq := ctl_eql y
    have hee : (e == e) = true := beq_self_eq_true e
    have hll : (l == l) = true := beq_self_eq_true l
    have YSZ := Lib.hid (show (Ctl.cells y).toArray.size = 26 by rfl)
    have YON := Lib.hid (Ctl.cells_one y)
    have YS0 := Lib.hid (show (Ctl.cells ctlZ).toArray.size = 26 by rw [ctlZ_lit]; rfl)
    clear hye
    go_upto_region 7 with (first
      | (go_at_call 23; go_loud (refine (Decode_Ctl l _ _ y e rfl OV.out HL.out HYE.out).mono ?_; rintro r w6 ⟨rfl, hw⟩; replace OV := Lib.hid (OV.out.below hw); replace BV := Lib.hid (BV.out.below hw); replace D := Lib.hid (gr_tr D.out hw); clear hw))
      | (refine wpList_store_new rfl 38 (.tmp 9) (.tmp 30) rfl (Ctl.cells y).toArray 38 _ rfl rfl (by rw [YSZ.out]; kernel_rfl) (by rw [YSZ.out]; rfl) YON.out ?_; intro w7 hh hb; have Y7 := Lib.hid hh; replace OV := Lib.hid (OV.out.below hb); replace BV := Lib.hid (BV.out.below hb); replace D := Lib.hid (gr_tr D.out hb); clear hh hb))
    go_upto_region 8 with (first
      | (go_at_call 24; go_loud (refine (rDecode_Ctl l _ _ y e BV.out HL.out HYR.out).mono ?_; rintro r w8 ⟨rfl, hw⟩; replace OV := Lib.hid (OV.out.below hw); replace BV := Lib.hid (BV.out.below hw); have Y8 := Lib.hid (blk_below Y7.out hw); replace D := Lib.hid (gr_tr D.out hw); clear hw))
      | (refine wpList_store_new rfl 38 (.tmp 11) (.tmp 35) rfl (Ctl.cells y).toArray 38 _ rfl rfl (by rw [YSZ.out]; kernel_rfl) (by rw [YSZ.out]; rfl) YON.out ?_; intro w9 hh hb; have Z9 := Lib.hid hh; have Y9 := Lib.hid (blk_below Y8.out hb); replace OV := Lib.hid (OV.out.below hb); replace BV := Lib.hid (BV.out.below hb); replace D := Lib.hid (gr_tr D.out hb); clear hh hb))
    go_wp2_with (first
      | (refine wpList_load_row rfl 38 (.tmp 9) rfl w6.heap.size rfl 38 (Ctl.cells y).toArray (0, 0) _ Y9.out Tryd.underlying38 rfl (by rw [YSZ.out]; kernel_rfl) ?_)
      | (refine wpList_load_row rfl 38 (.tmp 11) rfl w8.heap.size rfl 38 (Ctl.cells y).toArray (0, 0) _ Z9.out Tryd.underlying38 rfl (by rw [YSZ.out]; kernel_rfl) ?_)
      | (go_at_call 17; go_loud (refine (Same_any _ _ _ _ _ OV.out BV.out).mono ?_; rintro r w4 ⟨rfl, hw4⟩; subst hw4; rw [hll]))
      | (go_at_call 20; go_loud (refine (known_any _).mono ?_; rintro r wk ⟨rfl, hw⟩; replace D := Lib.hid (gr_tr D.out hw); clear hw)))
    go_ret
    exact ⟨rfl, D.out⟩
end Go.Proofs.YthnnopjakpjoeaaDoor
