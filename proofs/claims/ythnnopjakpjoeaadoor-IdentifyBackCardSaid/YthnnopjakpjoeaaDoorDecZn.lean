/- DecodeZoned. Printed by gendecz.py. -/
import Derived.Test.YthnnopjakpjoeaaDoorIdDec
import Derived.Test.YthnnopjakpjoeaaDoorIdZn
namespace Go.Proofs.YthnnopjakpjoeaaDoor
open Go.RowKit Idn
set_option linter.unusedVariables false
set_option linter.unusedSimpArgs false
theorem Zn.cells_one (x : Zn) : (Zn.cells x).toArray.all (·.oneCell') = true := by simp [Zn.cells, Value.oneCell']
namespace Idn
def znZ : Zn := ⟨false, false, 0#32, 0#32, 0#64, 0#8⟩
def okZ (_ : Zn) : Bool := true
def rdZ (l : List (BitVec 8)) : Zn := ⟨Wire.getV (cutL l 0 2) == 1#64, Wire.getV (cutL l 2 2) == 1#64, (Wire.getV (cutL l 4 4)).setWidth 32, (Wire.getV (cutL l 8 4)).setWidth 32, Wire.getV (cutL l 2816 8), (Wire.getV (cutL l 2824 1)).setWidth 8⟩
theorem readS_zn (l : List (BitVec 8)) : readS l (Zn.cells znZ).toArray znSpec = (Zn.cells (rdZ l)).toArray := rfl
theorem apart_zn : apartB znSpec = true := by decide
theorem rdZ_back (x : Zn) : rdZ (znB x) = x := by
  have h : ∀ s v, (s, v) ∈ znSpec.zip (znV x) → s.2.1.trunc v = v → Wire.getV (cutL (znB x) s.1 s.2.1.size) = v := fun s v hm ht => rd_back apart_zn (znFs_in x) hm ht
  have hf := zn_fits x
  have e0 := h (0, .flag, 0) (bb x.vary) (by simp [znSpec, znV]) (hf ((0, .flag, 0), bb x.vary) (by simp [znSpec, znV])).2.1
  have e1 := h (2, .flag, 1) (bb x.across) (by simp [znSpec, znV]) (hf ((2, .flag, 1), bb x.across) (by simp [znSpec, znV])).2.1
  have e2 := h (4, .u32, 2) (x.active.setWidth 64) (by simp [znSpec, znV]) (hf ((4, .u32, 2), x.active.setWidth 64) (by simp [znSpec, znV])).2.1
  have e3 := h (8, .u32, 3) (x.openz.setWidth 64) (by simp [znSpec, znV]) (hf ((8, .u32, 3), x.openz.setWidth 64) (by simp [znSpec, znV])).2.1
  have e4 := h (2816, .u64, 4) (x.size.setWidth 64) (by simp [znSpec, znV]) (hf ((2816, .u64, 4), x.size.setWidth 64) (by simp [znSpec, znV])).2.1
  have e5 := h (2824, .u8, 5) (x.ext.setWidth 64) (by simp [znSpec, znV]) (hf ((2824, .u8, 5), x.ext.setWidth 64) (by simp [znSpec, znV])).2.1
  simp only [Kd.size] at e0 e1 e2 e3 e4 e5
  unfold rdZ
  rw [e0, e1, e2, e3, e4, e5, bb_eq, bb_eq, BitVec.setWidth_setWidth_of_le _ (by omega), BitVec.setWidth_setWidth_of_le _ (by omega), BitVec.setWidth_setWidth_of_le _ (by omega), BitVec.setWidth_eq, BitVec.setWidth_eq, BitVec.setWidth_eq, BitVec.setWidth_eq]
end Idn
set_option maxHeartbeats 6400000 in
set_option maxRecDepth 100000 in
theorem readZ_at (X bbox : Nat) (bv : Value) (l : List (BitVec 8)) (w : World) (hb : BytesV w bv l) (hl : l.length = 4096) (hbb : w.heap[bbox]? = some (.cells #[bv] 22 (0, 0))) (hoff : Off (fun b => b = X) bv) (hne : ¬ bbox = X)
    (hx : w.heap[X]? = some (.cells (Zn.cells znZ).toArray 73 (0, 0))) :
    Calls Tryd.prog 91 #[.pointer (some ⟨X, 0, none⟩), .pointer (some ⟨bbox, 0, none⟩)] w fun e w' => e = .returned (.tuple #[]) ∧ w'.heap[X]? = some (.cells (Zn.cells (rdZ l)).toArray 73 (0, 0)) ∧ Chg (fun b => b = X) w w' := by
  have BV := Lib.hid hb; have HX := Lib.hid hx; have OFF := Lib.hid hoff; have HL := Lib.hid hl
  have HXW := Lib.hid (Array.getElem?_eq_some_iff.1 hx).1
  have q0 : ∀ y : KeepT (fun b => b = X) w, y.val.cell? ⟨bbox, 0, none⟩ = some bv := fun y => y.cell ((cell_of_row _ _ 0 _ _ _ hbb).trans rfl) hne
  clear hb hbb hl hoff hx
  go_enter Tryd.func91, Tryd.ntmps91
  go_wp2
  refine wp_region_planW (fun b => b = X) [(true, 0), (true, 1), (false, 2), (false, 3)] (by kernel_rfl) (by kernel_rfl) (by intro c a d v w h; cases d <;> exact h) ?_
  intro W1 K1 C1
  repeat (refine wpS_firm rfl (fun K hK => ?_); simp only [Keep]; go_simp; refine hK _ ?_; clear hK K)
  refine wpS_chain rfl ?_
  go_wp2_with (go_at_call 92; go_loud (refine (zoned_any X _).mono ?_; rintro r w3 ⟨pv, ps, rfl, hsv, hkey, hps, hnv, hw⟩; have SV := Lib.hid hsv; have KEY := Lib.hid hkey; have PS := Lib.hid hps; have NV := Lib.hid hnv; have K2 := Lib.hid (K1.out.below hw); have C2 := Lib.hid (gr_tr C1.out hw); clear hsv hkey hps hnv hw))
  refine ⟨K2.out, ?_⟩
  refine wpS_chain rfl ?_
  go_wp2_with (go_at_call 73; go_loud (refine (load_any X 73 (Zn.cells znZ).toArray bv pv l ps _ (BV.out.below C2.out) HL.out OFF.out SV.out (fun g o n c e h => by have := NV.out g o n c e; have := C1.out.size; have := HXW.out; omega) (blk_below HX.out C2.out) (fit_all KEY.out (by decide) PS.out (by have := C1.out.size; have := HXW.out; omega))).mono ?_; rw [readC_key KEY.out, readS_zn]; rintro r w4 ⟨rfl, hx4, hc⟩; have X4 := Lib.hid hx4; have K3 := Lib.hid (K2.out.chg hc (fun k h => .inl h)); have C3 := Lib.hid ((Chg.of_below (B := fun b => b = X) C2.out).trans hc); clear hx4 hc))
  refine ⟨K3.out, ?_⟩
  repeat (refine wpS_firm rfl (fun K hK => ?_); simp only [Keep]; go_simp; refine hK _ ?_; clear hK K)
  unfold wpS
  go_wp2
  go_end0
  exact ⟨rfl, X4.out, C3.out⟩
set_option maxRecDepth 100000 in
theorem EncZ2_at (x : Zn) (w : World) (h : okZ x = true) : Calls Tryd.prog 93 #[.agg (Zn.cells x).toArray] w fun e w' => ∃ u, e = .returned (.tuple #[u, .int .i64 0]) ∧ BytesV w' u (znB x) ∧ Below w.heap.size w w' := by
  go_enter Tryd.func93, Tryd.ntmps93
  go_wp2_with (first
    | (refine wpList_load_row rfl 73 (.tmp 1) rfl w.heap.size rfl 73 _ (0, 0) _ (heap_alloc_new w _) Tryd.underlying73 rfl (by kernel_rfl) ?_)
    | (go_at_call 36; go_loud (refine (EncZ_at x _).mono ?_; rintro r w3 ⟨u, rfl, hu, hw⟩; have U := Lib.hid hu; have D := Lib.hid (gr_tr (gr_alloc w _) hw); clear hu hw)))
  go_ret2
  exact ⟨_, rfl, U.out, D.out⟩
set_option maxRecDepth 100000 in
theorem Zn_lit : (Zn.cells znZ).toArray = #[.bool false, .bool false, .int .u32 0, .int .u32 0, .int .u64 0, .int .u8 0] := by rfl
set_option maxHeartbeats 6400000 in
set_option maxRecDepth 100000 in
theorem decoded_Zn (l : List (BitVec 8)) (bv : Value) (bbox : Nat) (w : World) (y : Zn) (e : Int) (hb : BytesV w bv l) (hl : l.length ≤ 140737488355328) (hbb : w.heap[bbox]? = some (.cells #[bv] 22 (0, 0))) (hd : decV rdZ okZ znB znZ l = (y, e)) :
    Calls Tryd.prog 90 #[bv, .func (.func 91) #[] #[.pointer (some ⟨bbox, 0, none⟩)], .func (.func 93) #[] #[]] w fun r w' => r = .returned (.tuple #[.agg (Zn.cells y).toArray, .int .i64 e]) ∧ Below w.heap.size w w' := by
  obtain ⟨av, cv, rfl, hv0, hv1, hv2, hv3⟩ := id hb
  have hm : l.length ≤ 9223372036854775807 := by omega
  have BV := Lib.hid hb; have BB := Lib.hid hbb
  have SznZ := Lib.hid (show (Zn.cells znZ).toArray.size = 6 by rw [Zn_lit]; rfl)
  obtain ⟨V, hV⟩ : ∃ V, V = w.alloc (.cells (Zn.cells znZ).toArray 73) := ⟨_, rfl⟩
  have DV := Lib.hid (show Below w.heap.size w V by rw [hV]; exact gr_alloc w _)
  have XV := Lib.hid (show V.heap[w.heap.size]? = some (.cells (Zn.cells znZ).toArray 73 (0, 0)) by rw [hV]; exact heap_alloc_new w _)
  have VS := Lib.hid (show w.heap.size < V.heap.size by rw [hV]; simp)
  rw [Zn_lit] at hV
  have HV := Lib.hid hV
  clear hb hbb hv0 hv1 hv2 hv3 hV
  unfold decV at hd
  by_cases p1 : l.length < 4096
  · rw [if_pos p1] at hd
    cases hd
    have d1 : decide ((l.length : Int) < 4096) = true := decide_eq_true (by omega)
    clear p1
    go_enter Tryd.func90, Tryd.ntmps90
    go_upto_region 1 with (fail)
    rw [← HV.out]
    go_wp2_with (first
      | (refine wpList_load_row rfl 73 (.tmp 6) rfl w.heap.size rfl 73 _ (0, 0) _ XV.out Tryd.underlying73 rfl (by rw [SznZ.out]; kernel_rfl) ?_)
      | (refine wpList_store_row rfl 73 (.tmp 6) (.tmp 15) rfl w.heap.size (Zn.cells znZ).toArray rfl rfl 73 _ XV.out (by rw [SznZ.out]; kernel_rfl) rfl (Zn.cells_one _) ?_))
    exact bodyPost_ret (results_row_tmp rfl _ _ w.heap.size 73 (Zn.cells znZ).toArray (0, 0) _ rfl (setRow_heap _ _ _ _ _ _ XV.out) Tryd.underlying73 rfl (by rw [SznZ.out]; kernel_rfl)) rfl ⟨rfl, below_setRow DV.out (Nat.le_refl _) _⟩
  · rw [if_neg p1] at hd
    by_cases p2 : 4096 < l.length
    · rw [if_pos p2] at hd
      cases hd
      have d1 : decide ((l.length : Int) < 4096) = false := decide_eq_false (by omega)
      have d2 : decide (4096 < (l.length : Int)) = true := decide_eq_true (by omega)
      clear p1 p2
      go_enter Tryd.func90, Tryd.ntmps90
      go_upto_region 1 with (fail)
      rw [← HV.out]
      go_wp2_with (first
        | (refine wpList_load_row rfl 73 (.tmp 6) rfl w.heap.size rfl 73 _ (0, 0) _ XV.out Tryd.underlying73 rfl (by rw [SznZ.out]; kernel_rfl) ?_)
        | (refine wpList_store_row rfl 73 (.tmp 6) (.tmp 20) rfl w.heap.size (Zn.cells znZ).toArray rfl rfl 73 _ XV.out (by rw [SznZ.out]; kernel_rfl) rfl (Zn.cells_one _) ?_))
      exact bodyPost_ret (results_row_tmp rfl _ _ w.heap.size 73 (Zn.cells znZ).toArray (0, 0) _ rfl (setRow_heap _ _ _ _ _ _ XV.out) Tryd.underlying73 rfl (by rw [SznZ.out]; kernel_rfl)) rfl ⟨rfl, below_setRow DV.out (Nat.le_refl _) _⟩
    · rw [if_neg p2] at hd
      have d1 : decide ((l.length : Int) < 4096) = false := decide_eq_false (by omega)
      have d2 : decide (4096 < (l.length : Int)) = false := decide_eq_false (by omega)
      have hl4 : l.length = 4096 := by omega
      have HD := Lib.hid hd; have HL4 := Lib.hid hl4
      clear p1 p2 hd hl4
      obtain ⟨x, hx⟩ : ∃ x, rdZ l = x := ⟨_, rfl⟩
      have HX := Lib.hid hx
      have SZX := Lib.hid (show (Zn.cells x).toArray.size = 6 by rfl)
      clear hx
      obtain ⟨bo, hbo⟩ : ∃ b, okZ x = b := ⟨_, rfl⟩
      have HO := Lib.hid hbo; clear hbo
      obtain ⟨W, hW⟩ : ∃ W, W = V.alloc (.cells (Zn.cells znZ).toArray 73) := ⟨_, rfl⟩
      have D := Lib.hid (show Below w.heap.size w W by rw [hW]; exact gr_tr DV.out (gr_alloc V _))
      have XA := Lib.hid (show W.heap[w.heap.size]? = some (.cells (Zn.cells znZ).toArray 73 (0, 0)) by rw [hW]; exact blk_below XV.out (gr_alloc V _))
      have XB := Lib.hid (show W.heap[V.heap.size]? = some (.cells (Zn.cells znZ).toArray 73 (0, 0)) by rw [hW]; exact heap_alloc_new V _)
      rw [Zn_lit] at hW
      have HW := Lib.hid hW; clear hW
      have HBW := Lib.hid (Array.getElem?_eq_some_iff.1 BB.out).1
      have hgl : ∀ g o n c, Value.slice av l.length cv = .slice (some ⟨g, o, none⟩) n c → g < w.heap.size := slice_lt BV.out (by rw [HL4.out]; decide)
      have GL := Lib.hid hgl; clear hgl
      go_enter Tryd.func90, Tryd.ntmps90
      go_upto_region 1 with (fail)
      rw [← HV.out]
      go_upto_region 6 with (fail)
      rw [← HW.out]
      go_upto_region 7 with (go_at_call 91; go_loud (refine (readZ_at V.heap.size bbox _ l _ (BV.out.below D.out) HL4.out (blk_below BB.out D.out) (fun g o n c e h => by have := GL.out g o n c e; have := VS.out; omega) (fun h => by have := HBW.out; have := VS.out; omega) XB.out).mono ?_; rw [HX.out]; rintro r w3 ⟨rfl, hx3, hc⟩; have X3 := Lib.hid hx3; have C3 := Lib.hid hc; have D3 := Lib.hid (hc.fresh D.out (fun k h => by have := VS.out; omega)); have A3 := Lib.hid (hc.blk XA.out (by have := VS.out; omega)); have BV3 := Lib.hid (BV.out.below D3.out); clear hx3 hc))
      cases bo
      · exact absurd HO.out (by unfold okZ; simp)
      · have EN := Lib.hid (fun W => EncZ2_at x W HO.out)
        obtain ⟨bq, hbq⟩ : ∃ b, (znB x == l) = b := ⟨_, rfl⟩
        have HQ := Lib.hid hbq; clear hbq
        cases bq
        · skip
          go_wp2_with (first
            | (refine wpList_load_row rfl 73 (.tmp 8) rfl V.heap.size rfl 73 _ (0, 0) _ X3.out Tryd.underlying73 rfl (by rw [SZX.out]; kernel_rfl) ?_)
            | (refine wpList_load_row rfl 73 (.tmp 6) rfl w.heap.size rfl 73 _ (0, 0) _ A4.out Tryd.underlying73 rfl (by rw [SznZ.out]; kernel_rfl) ?_)
            | (refine wpList_store_row rfl 73 (.tmp 6) (.tmp 37) rfl w.heap.size (Zn.cells znZ).toArray rfl rfl 73 _ A4.out (by rw [SznZ.out]; kernel_rfl) rfl (Zn.cells_one _) ?_)
            | (go_at_call 93; go_loud (refine (EN.out _).mono ?_; rintro r w4 ⟨u, rfl, hu, hw⟩; have U := Lib.hid hu; have D4 := Lib.hid (gr_tr D3.out hw); have A4 := Lib.hid (blk_below A3.out hw); have X4 := Lib.hid (blk_below X3.out hw); have BV4 := Lib.hid (BV3.out.below hw); clear hu hw))
            | (go_at_call 128; go_loud (refine (Equal_at _ _ _ _ _ _ U.out BV4.out HQ.out).mono ?_; rintro r w5 ⟨rfl, rfl⟩)))
          obtain ⟨e1, e2⟩ : y = znZ ∧ e = 6 := by
            have h := HD.out
            rw [HX.out, HO.out, HQ.out] at h
            simp at h
            exact ⟨h.1.symm, h.2.symm⟩
          rw [e1, e2]
          exact bodyPost_ret (results_row_tmp rfl _ _ w.heap.size 73 (Zn.cells znZ).toArray (0, 0) _ rfl (setRow_heap _ _ _ _ _ _ A4.out) Tryd.underlying73 rfl (by rw [SznZ.out]; kernel_rfl)) rfl ⟨rfl, below_setRow D4.out (Nat.le_refl _) _⟩
        · skip
          go_wp2_with (first
            | (refine wpList_load_row rfl 73 (.tmp 8) rfl V.heap.size rfl 73 _ (0, 0) _ X3.out Tryd.underlying73 rfl (by rw [SZX.out]; kernel_rfl) ?_)
            | (refine wpList_load_row rfl 73 (.tmp 8) rfl V.heap.size rfl 73 _ (0, 0) _ X4.out Tryd.underlying73 rfl (by rw [SZX.out]; kernel_rfl) ?_)
            | (refine wpList_store_row rfl 73 (.tmp 6) (.tmp 38) rfl w.heap.size (Zn.cells x).toArray rfl rfl 73 _ A4.out (by rw [SZX.out]; kernel_rfl) (by rw [SZX.out, SznZ.out]) (Zn.cells_one _) ?_)
            | (go_at_call 93; go_loud (refine (EN.out _).mono ?_; rintro r w4 ⟨u, rfl, hu, hw⟩; have U := Lib.hid hu; have D4 := Lib.hid (gr_tr D3.out hw); have A4 := Lib.hid (blk_below A3.out hw); have X4 := Lib.hid (blk_below X3.out hw); have BV4 := Lib.hid (BV3.out.below hw); clear hu hw))
            | (go_at_call 128; go_loud (refine (Equal_at _ _ _ _ _ _ U.out BV4.out HQ.out).mono ?_; rintro r w5 ⟨rfl, rfl⟩)))
          obtain ⟨e1, e2⟩ : y = x ∧ e = 0 := by
            have h := HD.out
            rw [HX.out, HO.out, HQ.out] at h
            simp at h
            exact ⟨h.1.symm, h.2.symm⟩
          rw [e1, e2]
          exact bodyPost_ret (results_row_tmp rfl _ _ w.heap.size 73 (Zn.cells x).toArray (0, 0) _ rfl (setRow_heap _ _ _ _ _ _ A4.out) Tryd.underlying73 rfl (by rw [SZX.out]; kernel_rfl)) rfl ⟨rfl, below_setRow D4.out (Nat.le_refl _) _⟩
set_option maxHeartbeats 6400000 in
set_option maxRecDepth 100000 in
theorem Decode_Zn (l : List (BitVec 8)) (bv : Value) (w : World) (y : Zn) (e : Int) (hsz : (Zn.cells y).toArray.size = 6) (hb : BytesV w bv l) (hl : l.length ≤ 140737488355328) (hd : decV rdZ okZ znB znZ l = (y, e)) :
    Calls Tryd.prog 35 #[bv] w fun r w' => r = .returned (.tuple #[.agg (Zn.cells y).toArray, .int .i64 e]) ∧ Below w.heap.size w w' := by
  have hmf : ∀ (fn : Fn) (first cap : Array Value) (w : World), (Instr.makeFunc fn first cap).run Tryd.prog w = .ok (.func fn first cap) w := fun _ _ _ _ => rfl
  obtain ⟨av, cv, rfl, hv0, hv1, hv2, hv3⟩ := id hb
  have SznZ := Lib.hid (show (Zn.cells znZ).toArray.size = 6 by rw [Zn_lit]; rfl)
  have HSZ := Lib.hid hsz
  clear hsz
  obtain ⟨bv, hbv⟩ : ∃ v, v = Value.slice av l.length cv := ⟨_, rfl⟩
  have BV := Lib.hid (show BytesV w bv l by rw [hbv]; exact hb); have HD := Lib.hid hd
  rw [← hbv]
  clear hv0 hv1 hv2 hv3
  obtain ⟨W, hW⟩ : ∃ W, W = (w.alloc (.cells #[bv] 22)).alloc (.cells (Zn.cells znZ).toArray 73) := ⟨_, rfl⟩
  have D := Lib.hid (show Below w.heap.size w W by rw [hW]; exact gr_tr (gr_alloc w _) (gr_alloc _ _))
  have BB := Lib.hid (show W.heap[w.heap.size]? = some (.cells #[bv] 22 (0, 0)) by rw [hW]; exact blk_below (heap_alloc_new w _) (gr_alloc _ _))
  have XB := Lib.hid (show W.heap[w.heap.size + 1]? = some (.cells (Zn.cells znZ).toArray 73 (0, 0)) by rw [hW]; have := heap_alloc_new (w.alloc (.cells #[bv] 22)) (.cells (Zn.cells znZ).toArray 73); rwa [World.size_alloc] at this)
  rw [Zn_lit] at hW
  have HW := Lib.hid hW
  have cb : W.cell? ⟨w.heap.size, 0, none⟩ = some bv := (cell_of_row _ _ 0 _ _ _ BB.out).trans rfl
  have HBV := Lib.hid hbv
  clear hW hb hd
  rw [HBV.out] at HW BV BB cb ⊢
  clear hbv
  go_enter Tryd.func35, Tryd.ntmps35
  go_upto_region 1 with (fail)
  rw [← HW.out]
  go_wp2_with (first
    | (go_at_call 90; go_loud (refine (decoded_Zn l _ w.heap.size _ y e (BV.out.below D.out) hl BB.out HD.out).mono ?_; rintro r w3 ⟨rfl, hw⟩; have D3 := Lib.hid (gr_tr D.out hw); have X3 := Lib.hid (blk_below XB.out hw); clear hw))
    | (refine wpList_store_row rfl 73 (.tmp 2) (.tmp 7) rfl (w.heap.size + 1) (Zn.cells y).toArray rfl rfl 73 _ X3.out (by rw [HSZ.out]; kernel_rfl) (by rw [HSZ.out, SznZ.out]) (Zn.cells_one _) ?_))
  exact bodyPost_ret (results_row_tmp rfl _ _ (w.heap.size + 1) 73 (Zn.cells y).toArray (0, 0) _ rfl (setRow_heap _ _ _ _ _ _ X3.out) Tryd.underlying73 rfl (by rw [HSZ.out]; kernel_rfl)) rfl ⟨rfl, below_setRow D3.out (by omega) _⟩
end Go.Proofs.YthnnopjakpjoeaaDoor
