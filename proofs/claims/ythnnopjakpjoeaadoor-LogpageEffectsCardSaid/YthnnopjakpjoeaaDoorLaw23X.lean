/- The law LogpageEffects: the walk. Printed by genlaw23x.py. -/
import Derived.Test.YthnnopjakpjoeaaDoorLaw23A
import Derived.Test.YthnnopjakpjoeaaDoorLogEM
import Derived.Test.YthnnopjakpjoeaaDoorSelfEq
import Derived.Test.YthnnopjakpjoeaaDoorLogT
namespace Go.Proofs.YthnnopjakpjoeaaDoor
open Go.RowKit Lg
set_option linter.unusedVariables false
set_option linter.unusedSimpArgs false
theorem flat32 (x : List (BitVec 32)) : x.flatMap (fun y => [Value.int .u32 (uv y)]) = c32 x := by
  unfold c32
  induction x with
  | nil => rfl
  | cons a r ih => rw [List.flatMap_cons, ih]; rfl
theorem Lg.efB_len (a b : List (BitVec 32)) (ha : a.length = 256) (hb : b.length = 256) : (efB a b).length = 4096 := by
  unfold efB
  exact nsBL_len (by rw [List.length_append, ha, hb]; omega)
theorem c32_eql (l : List (BitVec 32)) (h : l.length = 256) (w : World) : (binOp .eql 105 (.agg (c32 l).toArray) (.agg (c32 l).toArray)).run Tryd.prog w = .ok (.bool true) w := by
  refine eql_self (fun w => self_array (c := 1) Tryd.underlying105 (by kernel_rfl) (by kernel_rfl) (fun i hi => ?_) w) w
  rw [Nat.mul_one]
  refine selfAt_int (a := uv (l[i]'(by rw [h]; exact hi))) Tryd.underlying24 ?_
  rw [List.getElem?_toArray]
  exact c32_get _ _ _ (List.getElem?_eq_getElem (by rw [h]; exact hi))
set_option maxHeartbeats 6400000 in
set_option maxRecDepth 20000 in
theorem lawEffects (a b : List (BitVec 32)) (at' more : Int) (by' : BitVec 8) (w : World) (ha : a.length = 256) (hb : b.length = 256) (hat : -9223372036854775808 ≤ at' ∧ at' ≤ 9223372036854775807) (hm : -9223372036854775808 ≤ more ∧ more ≤ 9223372036854775807) (ht : Lib.TabIs Tryd.prog w "strings.asciiSpace" .u8 Lib.asciiSpaceTab) :
    Calls Tryd.prog 9 #[.agg (a.flatMap (fun y => [Value.int .u32 (uv y)])).toArray, .agg (b.flatMap (fun y => [Value.int .u32 (uv y)])).toArray, .agg #[.int .i64 at', .int .u8 (uv by'), .int .i64 more]] w fun e w' => e = .returned (.bool true) ∧ Below w.heap.size w w' := by
  rw [flat32, flat32]
  have ENC := Lib.hid (fun w => EncEf_at a b (efB a b) w ha hb rfl)
  have ENR := Lib.hid (fun w => rEncEf_at a b (efB a b) w ha hb rfl)
  have HBL := Lib.hid (Lg.efB_len a b ha hb)
  obtain ⟨B, hB⟩ : ∃ B, efB a b = B := ⟨_, rfl⟩
  rw [hB] at ENC ENR HBL
  have SA := Lib.hid (show (c32 a).toArray.size = 256 by rw [List.size_toArray, c32_length, ha])
  have SB := Lib.hid (show (c32 b).toArray.size = 256 by rw [List.size_toArray, c32_length, hb])
  obtain ⟨ca, hca⟩ : ∃ c, (c32 a).toArray = c := ⟨_, rfl⟩
  obtain ⟨cb, hcb⟩ : ∃ c, (c32 b).toArray = c := ⟨_, rfl⟩
  rw [hca, hcb] at ENC ENR
  rw [hca] at SA; rw [hcb] at SB
  rw [hca, hcb]
  have HA := Lib.hid hat; have HM := Lib.hid hm
  have ZSZ := Lib.hid (show (Tryd.zeroCells105).size = 256 by rw [z256, List.size_toArray, c32_length, List.length_replicate])
  obtain ⟨W, hW⟩ : ∃ W, W = ((w.alloc (.cells ca 105)).alloc (.cells cb 105)).alloc (.cells #[.int .i64 at', .int .u8 (uv by'), .int .i64 more] 90) := ⟨_, rfl⟩
  have D := Lib.hid (show Below w.heap.size w W by rw [hW]; exact gr_tr (gr_tr (gr_alloc w _) (gr_alloc _ _)) (gr_alloc _ _))
  have XA := Lib.hid (show W.heap[w.heap.size]? = some (.cells ca 105 (0, 0)) by rw [hW]; exact blk_below (blk_below (heap_alloc_new w _) (gr_alloc _ _)) (gr_alloc _ _))
  have XB := Lib.hid (show W.heap[w.heap.size + 1]? = some (.cells cb 105 (0, 0)) by rw [hW]; have h := heap_alloc_new (w.alloc (.cells ca 105)) (.cells cb 105); rw [World.size_alloc] at h; exact blk_below h (gr_alloc _ _))
  have XS := Lib.hid (show W.heap[w.heap.size + 1 + 1]? = some (.cells #[.int .i64 at', .int .u8 (uv by'), .int .i64 more] 90 (0, 0)) by rw [hW]; have h := heap_alloc_new ((w.alloc (.cells ca 105)).alloc (.cells cb 105)) (.cells #[.int .i64 at', .int .u8 (uv by'), .int .i64 more] 90); rwa [World.size_alloc, World.size_alloc] at h)
  have HW := Lib.hid hW
  have TAB := Lib.hid (tab_below ht D.out)
  have h11 : (B == B) = true := beq_self_eq_true B
  clear ha hb hat hm ht hB hca hcb hW
  go_enter Tryd.func9, Tryd.ntmps9
  go_upto_region 1 with (fail)
  first
    | rw [← HW.out]
    | (show Code.wp _ _ _ _ (((w.alloc (.cells ca 105)).alloc (.cells cb 105)).alloc (.cells #[.int .i64 at', .int .u8 (uv by'), .int .i64 more] 90)); rw [← HW.out])
  go_upto_region 2 with (first
    | (go_at_call 47; go_loud (refine (ENR.out _).mono ?_; rintro r w1 ⟨u1, rfl, hu, hw⟩; have U1 := Lib.hid hu; have XA1 := Lib.hid (blk_below XA.out hw); have XB1 := Lib.hid (blk_below XB.out hw); have XS1 := Lib.hid (blk_below XS.out hw); have D1 := Lib.hid (gr_tr D.out hw); have T1 := Lib.hid (tab_below TAB.out hw); clear hw hu))
    | (refine wpList_load_row rfl 105 (.tmp 3) rfl w.heap.size rfl 105 ca (0, 0) _ XA.out Tryd.underlying105 rfl (by rw [SA.out]; kernel_rfl) ?_)
    | (refine wpList_load_row rfl 105 (.tmp 4) rfl (w.heap.size + 1) rfl 105 cb (0, 0) _ XB.out Tryd.underlying105 rfl (by rw [SB.out]; kernel_rfl) ?_))
  go_upto_region 4 with (first
    | (go_at_call 48; go_loud (refine (ENC.out _).mono ?_; rintro r w2 ⟨u2, rfl, hu, hw⟩; have U2 := Lib.hid (BytesV.of_own hu); have V1 := Lib.hid (U1.out.below hw); have XS2 := Lib.hid (blk_below XS1.out hw); have D2 := Lib.hid (gr_tr D1.out hw); have T2 := Lib.hid (tab_below T1.out hw); clear hw hu))
    | (go_at_call 17; go_loud (refine (same_at _ _ B B true _ U2.out V1.out h11).mono ?_; rintro r w4 ⟨rfl, rfl⟩))
    | (refine wpList_load_row rfl 105 (.tmp 3) rfl w.heap.size rfl 105 ca (0, 0) _ XA1.out Tryd.underlying105 rfl (by rw [SA.out]; kernel_rfl) ?_)
    | (refine wpList_load_row rfl 105 (.tmp 4) rfl (w.heap.size + 1) rfl 105 cb (0, 0) _ XB1.out Tryd.underlying105 rfl (by rw [SB.out]; kernel_rfl) ?_))
  go_upto_region 5 with (first
    | (refine wpList_load_row rfl 90 (.tmp 5) rfl (w.heap.size + 1 + 1) rfl 90 _ (0, 0) _ XS2.out Tryd.underlying90 rfl (by kernel_rfl) ?_)
    | (go_at_call 41; go_loud (refine (spoil_any _ B at' more by' _ V1.out (by have := HBL.out; omega) HA.out HM.out).mono ?_; rintro r w5 ⟨bv, l, rfl, hv, hl, hw⟩; have BV := Lib.hid hv; have HL := Lib.hid (show l.length ≤ 5000 by have := HBL.out; omega); have D5 := Lib.hid (gr_tr D2.out hw); have T5 := Lib.hid (tab_below T2.out hw); clear hw hv hl)))
  obtain ⟨y, e2, hd⟩ : ∃ y e, decP 4096 effRd effOkB effZ l = (y, e) := ⟨_, _, rfl⟩
  have HD := Lib.hid hd
  have HD2 := Lib.hid (show decP 4096 effRd (fun l => allZ (l.drop 2048)) effZ l = (y, e2) by
    rw [← hd]; exact (decP_congr 4096 effRd effRd effOkB (fun l => allZ (l.drop 2048)) effZ l (fun h => ⟨rfl, eff_ok l h⟩)).symm)
  have hyl := eff_dec_len hd
  have ly : (y.v.take 256).length = 256 := by rw [List.length_take, hyl]; rfl
  have lz : (y.v.drop 256).length = 256 := by rw [List.length_drop, hyl]
  have SPA := Lib.hid (show (c32 (y.v.take 256)).toArray.size = 256 by rw [List.size_toArray, c32_length, ly])
  have SPB := Lib.hid (show (c32 (y.v.drop 256)).toArray.size = 256 by rw [List.size_toArray, c32_length, lz])
  have OPA := Lib.hid (c32_all (y.v.take 256)); have OPB := Lib.hid (c32_all (y.v.drop 256))
  have QA := Lib.hid (c32_eql _ ly); have QB := Lib.hid (c32_eql _ lz)
  have DEC := Lib.hid (fun bv w h1 => DecodeEf_at l bv w y e2 h1 (by have := HL.out; omega) HD.out)
  have DER := Lib.hid (fun bv w h1 => rDecEf_at l bv w y e2 h1 HL.out HD2.out)
  obtain ⟨pa, hpa⟩ : ∃ c, (c32 (y.v.take 256)).toArray = c := ⟨_, rfl⟩
  obtain ⟨pb, hpb⟩ : ∃ c, (c32 (y.v.drop 256)).toArray = c := ⟨_, rfl⟩
  rw [hpa, hpb] at DEC DER
  rw [hpa] at SPA OPA QA; rw [hpb] at SPB OPB QB
  have hff : (e2 == e2) = true := beq_self_eq_true e2
  clear hd h11 hyl ly lz hpa hpb HD HD2
  go_upto_region 6 with (first
    | (go_at_call 49; go_loud (refine (DEC.out _ _ BV.out).mono ?_; rintro r w6 ⟨rfl, hw⟩; have B6 := Lib.hid (BV.out.below hw); have D6 := Lib.hid (gr_tr D5.out hw); have T6 := Lib.hid (tab_below T5.out hw); clear hw))
    | (obtain ⟨Wea, hWea⟩ : ∃ z, z = (w6.alloc (.cells Tryd.zeroCells105 105)).alloc (.cells Tryd.zeroCells105 105) := ⟨_, rfl⟩; have DWea := Lib.hid (show Below w6.heap.size w6 Wea by rw [hWea]; exact gr_tr (gr_alloc _ _) (gr_alloc _ _)); have PWea := Lib.hid (show Wea.heap[w6.heap.size]? = some (.cells Tryd.zeroCells105 105 (0, 0)) by rw [hWea]; exact blk_below (heap_alloc_new w6 _) (gr_alloc _ _)); have QWea := Lib.hid (show Wea.heap[w6.heap.size + 1]? = some (.cells Tryd.zeroCells105 105 (0, 0)) by rw [hWea]; have h := heap_alloc_new (w6.alloc (.cells Tryd.zeroCells105 105)) (.cells Tryd.zeroCells105 105); rwa [World.size_alloc] at h); (first | rw [← hWea] | (show wpList _ _ _ _ _ ((w6.alloc (.cells Tryd.zeroCells105 105)).alloc (.cells Tryd.zeroCells105 105)); rw [← hWea])); clear hWea; refine wpList_store_row rfl 105 (.tmp 9) (.tmp 30) rfl w6.heap.size pa rfl rfl 105 _ PWea.out (by rw [SPA.out]; kernel_rfl) (ZSZ.out.trans SPA.out.symm) OPA.out ?_; obtain ⟨Web, hWeb⟩ : ∃ z, z = Wea.setRow w6.heap.size pa := ⟨_, rfl⟩; have c1 : Chg (fun b => b = w6.heap.size) Wea Web := (by rw [hWeb]; exact Chg.setRow (B := fun b => b = w6.heap.size) Wea rfl _); have PWeb := Lib.hid (show Web.heap[w6.heap.size]? = some (.cells pa 105 (0, 0)) by rw [hWeb]; exact setRow_heap _ _ _ _ _ _ PWea.out); have QWeb := Lib.hid (c1.blk QWea.out (by omega)); have DWeb := Lib.hid (c1.fresh DWea.out (fun k hk => by subst hk; exact Nat.le_refl _)); rw [← hWeb]; clear hWeb c1)
    | (refine wpList_store_row rfl 105 (.tmp 10) (.tmp 31) rfl (w6.heap.size + 1) pb rfl rfl 105 _ QWeb.out (by rw [SPB.out]; kernel_rfl) (ZSZ.out.trans SPB.out.symm) OPB.out ?_; obtain ⟨Wec, hWec⟩ : ∃ z, z = Web.setRow (w6.heap.size + 1) pb := ⟨_, rfl⟩; have c1 : Chg (fun b => b = w6.heap.size + 1) Web Wec := (by rw [hWec]; exact Chg.setRow (B := fun b => b = w6.heap.size + 1) Web rfl _); have QWec := Lib.hid (show Wec.heap[w6.heap.size + 1]? = some (.cells pb 105 (0, 0)) by rw [hWec]; exact setRow_heap _ _ _ _ _ _ QWeb.out); have PWec := Lib.hid (c1.blk PWeb.out (by omega)); have DWec := Lib.hid (c1.fresh DWeb.out (fun k hk => by subst hk; omega)); have D7 := Lib.hid (gr_tr D6.out DWec.out); have T7 := Lib.hid (tab_below T6.out DWec.out); have B7 := Lib.hid (B6.out.below DWec.out); rw [← hWec]; clear hWec c1))
  go_upto_region 7 with (first
    | (go_at_call 50; go_loud (refine (DER.out _ _ B7.out).mono ?_; rintro r w8 ⟨rfl, hw⟩; have PE8 := Lib.hid (blk_below PWec.out hw); have QE8 := Lib.hid (blk_below QWec.out hw); have D8 := Lib.hid (gr_tr D7.out hw); have T8 := Lib.hid (tab_below T7.out hw); clear hw))
    | (obtain ⟨Wfa, hWfa⟩ : ∃ z, z = (w8.alloc (.cells Tryd.zeroCells105 105)).alloc (.cells Tryd.zeroCells105 105) := ⟨_, rfl⟩; have DWfa := Lib.hid (show Below w8.heap.size w8 Wfa by rw [hWfa]; exact gr_tr (gr_alloc _ _) (gr_alloc _ _)); have PWfa := Lib.hid (show Wfa.heap[w8.heap.size]? = some (.cells Tryd.zeroCells105 105 (0, 0)) by rw [hWfa]; exact blk_below (heap_alloc_new w8 _) (gr_alloc _ _)); have QWfa := Lib.hid (show Wfa.heap[w8.heap.size + 1]? = some (.cells Tryd.zeroCells105 105 (0, 0)) by rw [hWfa]; have h := heap_alloc_new (w8.alloc (.cells Tryd.zeroCells105 105)) (.cells Tryd.zeroCells105 105); rwa [World.size_alloc] at h); (first | rw [← hWfa] | (show wpList _ _ _ _ _ ((w8.alloc (.cells Tryd.zeroCells105 105)).alloc (.cells Tryd.zeroCells105 105)); rw [← hWfa])); clear hWfa; refine wpList_store_row rfl 105 (.tmp 12) (.tmp 36) rfl w8.heap.size pa rfl rfl 105 _ PWfa.out (by rw [SPA.out]; kernel_rfl) (ZSZ.out.trans SPA.out.symm) OPA.out ?_; obtain ⟨Wfb, hWfb⟩ : ∃ z, z = Wfa.setRow w8.heap.size pa := ⟨_, rfl⟩; have c1 : Chg (fun b => b = w8.heap.size) Wfa Wfb := (by rw [hWfb]; exact Chg.setRow (B := fun b => b = w8.heap.size) Wfa rfl _); have PWfb := Lib.hid (show Wfb.heap[w8.heap.size]? = some (.cells pa 105 (0, 0)) by rw [hWfb]; exact setRow_heap _ _ _ _ _ _ PWfa.out); have QWfb := Lib.hid (c1.blk QWfa.out (by omega)); have DWfb := Lib.hid (c1.fresh DWfa.out (fun k hk => by subst hk; exact Nat.le_refl _)); rw [← hWfb]; clear hWfb c1)
    | (refine wpList_store_row rfl 105 (.tmp 13) (.tmp 37) rfl (w8.heap.size + 1) pb rfl rfl 105 _ QWfb.out (by rw [SPB.out]; kernel_rfl) (ZSZ.out.trans SPB.out.symm) OPB.out ?_; obtain ⟨Wfc, hWfc⟩ : ∃ z, z = Wfb.setRow (w8.heap.size + 1) pb := ⟨_, rfl⟩; have c1 : Chg (fun b => b = w8.heap.size + 1) Wfb Wfc := (by rw [hWfc]; exact Chg.setRow (B := fun b => b = w8.heap.size + 1) Wfb rfl _); have QWfc := Lib.hid (show Wfc.heap[w8.heap.size + 1]? = some (.cells pb 105 (0, 0)) by rw [hWfc]; exact setRow_heap _ _ _ _ _ _ QWfb.out); have PWfc := Lib.hid (c1.blk PWfb.out (by omega)); have DWfc := Lib.hid (c1.fresh DWfb.out (fun k hk => by subst hk; omega)); have D9 := Lib.hid (gr_tr D8.out DWfc.out); have T9 := Lib.hid (tab_below T8.out DWfc.out); have PE9 := Lib.hid (blk_below PE8.out DWfc.out); have QE9 := Lib.hid (blk_below QE8.out DWfc.out); rw [← hWfc]; clear hWfc c1))
  have qa := QA.out; have qb := QB.out
  go_wp2_with (first
    | (refine wpList_load_row rfl 105 (.tmp 9) rfl w6.heap.size rfl 105 pa (0, 0) _ PE9.out Tryd.underlying105 rfl (by rw [SPA.out]; kernel_rfl) ?_)
    | (refine wpList_load_row rfl 105 (.tmp 12) rfl w8.heap.size rfl 105 pa (0, 0) _ PWfc.out Tryd.underlying105 rfl (by rw [SPA.out]; kernel_rfl) ?_)
    | (refine wpList_unguard (by rfl) (wpList_load_row rfl 105 (.tmp 10) rfl (w6.heap.size + 1) rfl 105 pb (0, 0) _ QE9.out Tryd.underlying105 rfl (by rw [SPB.out]; kernel_rfl) ?_))
    | (refine wpList_unguard (by rfl) (wpList_load_row rfl 105 (.tmp 13) rfl (w8.heap.size + 1) rfl 105 pb (0, 0) _ QWfc.out Tryd.underlying105 rfl (by rw [SPB.out]; kernel_rfl) ?_))
    | (go_at_call 13; go_loud (refine (known_any _ T9.out).mono ?_; rintro r wa ⟨rfl, hw⟩; have DA := Lib.hid (gr_tr D9.out hw); clear hw)))
  go_ret
  exact ⟨rfl, DA.out⟩
end Go.Proofs.YthnnopjakpjoeaaDoor
