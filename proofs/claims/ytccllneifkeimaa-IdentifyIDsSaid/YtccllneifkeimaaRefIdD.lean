/- The reference's DecodeIDs. Printed by genriid2.py. -/
import Derived.Test.YtccllneifkeimaaRefIds
namespace Go.Proofs.Ytccllneifkeimaa
open Go.RowKit Idn
set_option linter.unusedVariables false
set_option linter.unusedSimpArgs false
set_option maxHeartbeats 6400000 in
set_option maxRecDepth 100000 in
theorem rDecode_Ids (l : List (BitVec 8)) (bv : Value) (w : World) (y : Ids) (e : Int) (hb : BytesV w bv l) (hl : l.length ≤ 140737488355328) (hd : decV rdI okI idsB idsZ l = (y, e)) :
    Calls Try.prog 21 #[bv] w fun r w' => r = .returned (.tuple #[.agg (Ids.cells y).toArray, .int .i64 e]) ∧ Below w.heap.size w w' := by
  have HD := Lib.hid hd; have BV0 := Lib.hid hb
  have SZZ := Lib.hid (show (Ids.cells idsZ).toArray.size = 41 by rw [Ids_lit]; rfl)
  obtain ⟨W, hW⟩ : ∃ W, W = (w.alloc (.cells (Ids.cells idsZ).toArray 44)).alloc (.cells (Ids.cells idsZ).toArray 44) := ⟨_, rfl⟩
  have D := Lib.hid (show Below w.heap.size w W by rw [hW]; exact gr_tr (gr_alloc w _) (gr_alloc _ _))
  have XA := Lib.hid (show W.heap[w.heap.size]? = some (.cells (Ids.cells idsZ).toArray 44 (0, 0)) by rw [hW]; exact blk_below (heap_alloc_new w _) (gr_alloc _ _))
  have XB := Lib.hid (show W.heap[w.heap.size + 1]? = some (.cells (Ids.cells idsZ).toArray 44 (0, 0)) by rw [hW]; have := heap_alloc_new (w.alloc (.cells (Ids.cells idsZ).toArray 44)) (.cells (Ids.cells idsZ).toArray 44); rwa [World.size_alloc] at this)
  rw [Ids_lit] at hW
  have HW := Lib.hid hW
  clear hW hd hb
  by_cases h4 : l.length = 4096
  · obtain ⟨g, o, cv, rfl⟩ := BV0.out.shapeAt (by omega)
    have hb4 := BV0.out
    rw [h4] at hb4 ⊢
    have hcv : 4096 ≤ cv ∧ cv ≤ 9223372036854775807 := by obtain ⟨_, _, e, _, h1, h2, _⟩ := hb4; injection e with _ _ e; rw [e, ← h4]; exact ⟨h1, h2⟩
    replace BV0 := Lib.hid hb4
    have HCV := Lib.hid hcv
    clear hb4 hcv
    have HL4 := Lib.hid h4
    have ec : (if l.length < 4096 then (4 : Int) else if 4096 < l.length then 5 else 0) = 0 := by rw [if_neg (by omega), if_neg (by omega)]
    have EC := Lib.hid ec
    have GL := Lib.hid (slice_lt BV0.out (by omega))
    clear h4 ec
    have BV := Lib.hid (BV0.out.below D.out)
    have OFF := Lib.hid (show Off (fun b => b = w.heap.size + 1) (.slice (some ⟨g, o, none⟩) 4096 cv) from fun g' o' n' c' e h => by have := GL.out g' o' n' c' e; omega)
    go_enter Try.func21, Try.ntmps21
    go_upto_region 2 with (fail)
    rw [← HW.out]
    go_upto_region 5 with (go_at_call 51; go_loud (refine (check_any _ l 0 _ BV.out EC.out).mono ?_; rintro r w' ⟨rfl, rfl⟩))
    have XR0 := Lib.hid (show W.heap[w.heap.size + 1]? = some (.cells (Ids.cells (idsK l 0)).toArray 44 (0, 0)) from XB.out)
    have CR0 := Lib.hid (Chg.refl (fun b => b = w.heap.size + 1) W)
    go_cut [6] (fun v wx => v = .int .i64 (atI l 0) ∧ W = wx)
    case first =>
      go_wp2
      go_meet
      exact ⟨rfl, rfl⟩
    obtain ⟨rfl, rfl⟩ := hcut
    have ha0' := atI_le l 0
    obtain ⟨a0, ha0⟩ : ∃ a, atI l 0 = a := ⟨_, rfl⟩
    have HA0 := Lib.hid ha0
    rw [ha0] at ha0' ⊢
    have ha60 : a0 ≤ 60 := by omega
    clear ha0 ha0'
    obtain ⟨y0, hy⟩ : ∃ y, l[a0]? = some y := ⟨_, List.getElem?_eq_getElem (by have := HL4.out; omega)⟩
    have c0 : World.cell? W ⟨g, o + a0, none⟩ = some (.int .u8 (uv y0)) := (BV.out.chg CR0.out OFF.out).cellAt hy
    obtain ⟨hit, hhit⟩ : ∃ b, hitI l 0 = b := ⟨_, rfl⟩
    have hq : (y0 == 1#8) = hit := by
      have h := hhit
      unfold hitI at h
      rw [HA0.out, hy] at h
      rw [← h]
      exact (rfl : (y0 == 1#8) = (some y0 == some 1#8))
    have hq2 : (uv y0 == 1) = hit := by rw [← hq]; exact uv_beq y0 1#8
    have hat : atI l 1 = if hit then a0 + 12 else a0 := by rw [atI_succ, hhit, HA0.out]; rfl
    have HH := Lib.hid hhit; have HAT := Lib.hid hat
    clear hy hhit hat hq
    go_upto_if 17 with (fail)
    go_cut [6] (fun v wx => v = .int .i64 (atI l 1) ∧ wx.heap[w.heap.size + 1]? = some (.cells (Ids.cells (idsK l 1)).toArray 44 (0, 0)) ∧ Chg (fun b => b = w.heap.size + 1) W wx)
    case first =>
      cases hit
      · have HSM := Lib.hid (idsK_same l 0 (by omega) HH.out)
        go_wp2
        go_meet
        exact ⟨by rw [HAT.out]; rfl, by rw [← HSM.out]; exact XR0.out, CR0.out⟩
      · obtain ⟨c, hc⟩ : ∃ c, prI l 0 = c := ⟨_, rfl⟩
        have htk : (l.drop (a0 + 4)).take (lenI 0) = c := by rw [← hc]; unfold prI; rw [HH.out, HA0.out]; rfl
        have hnx := idsK_next l 0 (by omega) c hc
        have hr4 : ∀ w', (Instr.slice 28 (.slice (some ⟨g, o, none⟩) 4096 cv) (some (.int .i64 ((a0 : Int) + 4))) none none).run Try.prog w' = .ok (.slice (some ⟨g, o + (a0 + 4), none⟩) (4096 - (a0 + 4)) (cv - (a0 + 4))) w' := run_fromO g o 4096 cv (a0 + 4) (by omega) (by have := HCV.out; omega) (by have := HCV.out; omega) (by have := HCV.out; omega)
        have hsum : IntKind.i64.wrap ((a0 : Int) + 4) = (a0 : Int) + 4 := IntWalk.i64_in _ (by omega)
        have br4 := (BV.out.chg CR0.out OFF.out).dropN (a0 + 4) (by rw [HL4.out]; omega)
        obtain ⟨n4, hn4⟩ : ∃ n, 4096 - (a0 + 4) = n := ⟨_, rfl⟩
        obtain ⟨k4, hk4⟩ : ∃ n, cv - (a0 + 4) = n := ⟨_, rfl⟩
        obtain ⟨o4, ho4⟩ : ∃ n, o + (a0 + 4) = n := ⟨_, rfl⟩
        rw [hn4, hk4, ho4] at br4
        rw [hn4, hk4, ho4] at hr4
        have BR4 := Lib.hid br4
        clear br4 hn4 hk4 ho4
        have HTK := Lib.hid htk; have HNX := Lib.hid hnx
        clear hc htk hnx c0 hq2
        go_wp2
        refine wp_region_planW (fun b => b = w.heap.size + 1) [(true, 0), (true, 1), (true, 2), (true, 3), (true, 4), (true, 5), (false, 6)] (by kernel_rfl) (by kernel_rfl) (by intro c a d v w h; cases d <;> exact h) ?_
        intro W1 K1 C1
        repeat (refine wpS_firm rfl (fun K hK => ?_); simp only [Keep]; go_simp; refine hK _ ?_; clear hK K)
        have XR1 := Lib.hid (blk_below XR0.out C1.out)
        refine wpS_chain rfl ?_
        refine copy_part rfl (.tmp 19) (.tmp 23) rfl (w.heap.size + 1) 0 (by omega) (idsK l 0) (idsK_ok HL4.out 0) 44 XR1.out rfl (.slice (some ⟨g, o4, none⟩) n4 k4) (l.drop (a0 + 4)) c rfl (BR4.out.below C1.out) (by rw [List.length_drop, HL4.out]; simp only [lenI]; omega) HTK.out ?_
        rw [HNX.out]
        go_wp2_with fail
        refine ⟨K1.out.row rfl _, ?_⟩
        unfold wpS
        clear hr4 hsum
        go_wp2
        go_meet
        exact ⟨by rw [HAT.out]; go_num, setRow_heap _ _ _ _ _ _ XR1.out, CR0.out.trans ((Chg.of_below C1.out).trans (Chg.setRow (B := fun b => b = w.heap.size + 1) (g := w.heap.size + 1) _ rfl _))⟩
    obtain ⟨rfl, hx, hc⟩ := hcut
    obtain ⟨wq1, eq1⟩ : ∃ z, z = wc := ⟨_, rfl⟩
    subst eq1
    have XR1 := Lib.hid hx; have CR1 := Lib.hid hc
    have ha1' := atI_le l 1
    obtain ⟨a1, ha1⟩ : ∃ a, atI l 1 = a := ⟨_, rfl⟩
    have HA1 := Lib.hid ha1
    rw [ha1] at ha1' ⊢
    have ha60 : a1 ≤ 60 := by omega
    clear hx hc ha1 ha1' HH HAT hq2 c0
    obtain ⟨y1, hy⟩ : ∃ y, l[a1]? = some y := ⟨_, List.getElem?_eq_getElem (by have := HL4.out; omega)⟩
    have c0 : World.cell? wq1 ⟨g, o + a1, none⟩ = some (.int .u8 (uv y1)) := (BV.out.chg CR1.out OFF.out).cellAt hy
    obtain ⟨hit, hhit⟩ : ∃ b, hitI l 1 = b := ⟨_, rfl⟩
    have hq : (y1 == 2#8) = hit := by
      have h := hhit
      unfold hitI at h
      rw [HA1.out, hy] at h
      rw [← h]
      exact (rfl : (y1 == 2#8) = (some y1 == some 2#8))
    have hq2 : (uv y1 == 2) = hit := by rw [← hq]; exact uv_beq y1 2#8
    have hat : atI l 2 = if hit then a1 + 20 else a1 := by rw [atI_succ, hhit, HA1.out]; rfl
    have HH := Lib.hid hhit; have HAT := Lib.hid hat
    clear hy hhit hat hq
    go_upto_if 31 with (fail)
    go_cut [6] (fun v wx => v = .int .i64 (atI l 2) ∧ wx.heap[w.heap.size + 1]? = some (.cells (Ids.cells (idsK l 2)).toArray 44 (0, 0)) ∧ Chg (fun b => b = w.heap.size + 1) W wx)
    case first =>
      cases hit
      · have HSM := Lib.hid (idsK_same l 1 (by omega) HH.out)
        go_wp2
        go_meet
        exact ⟨by rw [HAT.out]; rfl, by rw [← HSM.out]; exact XR1.out, CR1.out⟩
      · obtain ⟨c, hc⟩ : ∃ c, prI l 1 = c := ⟨_, rfl⟩
        have htk : (l.drop (a1 + 4)).take (lenI 1) = c := by rw [← hc]; unfold prI; rw [HH.out, HA1.out]; rfl
        have hnx := idsK_next l 1 (by omega) c hc
        have hr4 : ∀ w', (Instr.slice 28 (.slice (some ⟨g, o, none⟩) 4096 cv) (some (.int .i64 ((a1 : Int) + 4))) none none).run Try.prog w' = .ok (.slice (some ⟨g, o + (a1 + 4), none⟩) (4096 - (a1 + 4)) (cv - (a1 + 4))) w' := run_fromO g o 4096 cv (a1 + 4) (by omega) (by have := HCV.out; omega) (by have := HCV.out; omega) (by have := HCV.out; omega)
        have hsum : IntKind.i64.wrap ((a1 : Int) + 4) = (a1 : Int) + 4 := IntWalk.i64_in _ (by omega)
        have br4 := (BV.out.chg CR1.out OFF.out).dropN (a1 + 4) (by rw [HL4.out]; omega)
        obtain ⟨n4, hn4⟩ : ∃ n, 4096 - (a1 + 4) = n := ⟨_, rfl⟩
        obtain ⟨k4, hk4⟩ : ∃ n, cv - (a1 + 4) = n := ⟨_, rfl⟩
        obtain ⟨o4, ho4⟩ : ∃ n, o + (a1 + 4) = n := ⟨_, rfl⟩
        rw [hn4, hk4, ho4] at br4
        rw [hn4, hk4, ho4] at hr4
        have BR4 := Lib.hid br4
        clear br4 hn4 hk4 ho4
        have HTK := Lib.hid htk; have HNX := Lib.hid hnx
        clear hc htk hnx c0 hq2
        go_wp2
        refine wp_region_planW (fun b => b = w.heap.size + 1) [(true, 0), (true, 1), (true, 2), (true, 3), (true, 4), (true, 5), (false, 6)] (by kernel_rfl) (by kernel_rfl) (by intro c a d v w h; cases d <;> exact h) ?_
        intro W1 K1 C1
        repeat (refine wpS_firm rfl (fun K hK => ?_); simp only [Keep]; go_simp; refine hK _ ?_; clear hK K)
        have XR1 := Lib.hid (blk_below XR1.out C1.out)
        refine wpS_chain rfl ?_
        refine copy_part rfl (.tmp 33) (.tmp 37) rfl (w.heap.size + 1) 1 (by omega) (idsK l 1) (idsK_ok HL4.out 1) 44 XR1.out rfl (.slice (some ⟨g, o4, none⟩) n4 k4) (l.drop (a1 + 4)) c rfl (BR4.out.below C1.out) (by rw [List.length_drop, HL4.out]; simp only [lenI]; omega) HTK.out ?_
        rw [HNX.out]
        go_wp2_with fail
        refine ⟨K1.out.row rfl _, ?_⟩
        unfold wpS
        clear hr4 hsum
        go_wp2
        go_meet
        exact ⟨by rw [HAT.out]; go_num, setRow_heap _ _ _ _ _ _ XR1.out, CR1.out.trans ((Chg.of_below C1.out).trans (Chg.setRow (B := fun b => b = w.heap.size + 1) (g := w.heap.size + 1) _ rfl _))⟩
    obtain ⟨rfl, hx, hc⟩ := hcut
    obtain ⟨wq2, eq2⟩ : ∃ z, z = wc := ⟨_, rfl⟩
    subst eq2
    have XR2 := Lib.hid hx; have CR2 := Lib.hid hc
    have ha2' := atI_le l 2
    obtain ⟨a2, ha2⟩ : ∃ a, atI l 2 = a := ⟨_, rfl⟩
    have HA2 := Lib.hid ha2
    rw [ha2] at ha2' ⊢
    have ha60 : a2 ≤ 60 := by omega
    clear hx hc ha2 ha2' HH HAT hq2 c0
    obtain ⟨y2, hy⟩ : ∃ y, l[a2]? = some y := ⟨_, List.getElem?_eq_getElem (by have := HL4.out; omega)⟩
    have c0 : World.cell? wq2 ⟨g, o + a2, none⟩ = some (.int .u8 (uv y2)) := (BV.out.chg CR2.out OFF.out).cellAt hy
    obtain ⟨hit, hhit⟩ : ∃ b, hitI l 2 = b := ⟨_, rfl⟩
    have hq : (y2 == 3#8) = hit := by
      have h := hhit
      unfold hitI at h
      rw [HA2.out, hy] at h
      rw [← h]
      exact (rfl : (y2 == 3#8) = (some y2 == some 3#8))
    have hq2 : (uv y2 == 3) = hit := by rw [← hq]; exact uv_beq y2 3#8
    have hat : atI l 3 = if hit then a2 + 20 else a2 := by rw [atI_succ, hhit, HA2.out]; rfl
    have HH := Lib.hid hhit; have HAT := Lib.hid hat
    clear hy hhit hat hq
    go_upto_if 45 with (fail)
    go_cut [6] (fun v wx => v = .int .i64 (atI l 3) ∧ wx.heap[w.heap.size + 1]? = some (.cells (Ids.cells (idsK l 3)).toArray 44 (0, 0)) ∧ Chg (fun b => b = w.heap.size + 1) W wx)
    case first =>
      cases hit
      · have HSM := Lib.hid (idsK_same l 2 (by omega) HH.out)
        go_wp2
        go_meet
        exact ⟨by rw [HAT.out]; rfl, by rw [← HSM.out]; exact XR2.out, CR2.out⟩
      · obtain ⟨c, hc⟩ : ∃ c, prI l 2 = c := ⟨_, rfl⟩
        have htk : (l.drop (a2 + 4)).take (lenI 2) = c := by rw [← hc]; unfold prI; rw [HH.out, HA2.out]; rfl
        have hnx := idsK_next l 2 (by omega) c hc
        have hr4 : ∀ w', (Instr.slice 28 (.slice (some ⟨g, o, none⟩) 4096 cv) (some (.int .i64 ((a2 : Int) + 4))) none none).run Try.prog w' = .ok (.slice (some ⟨g, o + (a2 + 4), none⟩) (4096 - (a2 + 4)) (cv - (a2 + 4))) w' := run_fromO g o 4096 cv (a2 + 4) (by omega) (by have := HCV.out; omega) (by have := HCV.out; omega) (by have := HCV.out; omega)
        have hsum : IntKind.i64.wrap ((a2 : Int) + 4) = (a2 : Int) + 4 := IntWalk.i64_in _ (by omega)
        have br4 := (BV.out.chg CR2.out OFF.out).dropN (a2 + 4) (by rw [HL4.out]; omega)
        obtain ⟨n4, hn4⟩ : ∃ n, 4096 - (a2 + 4) = n := ⟨_, rfl⟩
        obtain ⟨k4, hk4⟩ : ∃ n, cv - (a2 + 4) = n := ⟨_, rfl⟩
        obtain ⟨o4, ho4⟩ : ∃ n, o + (a2 + 4) = n := ⟨_, rfl⟩
        rw [hn4, hk4, ho4] at br4
        rw [hn4, hk4, ho4] at hr4
        have BR4 := Lib.hid br4
        clear br4 hn4 hk4 ho4
        have HTK := Lib.hid htk; have HNX := Lib.hid hnx
        clear hc htk hnx c0 hq2
        go_wp2
        refine wp_region_planW (fun b => b = w.heap.size + 1) [(true, 0), (true, 1), (true, 2), (true, 3), (true, 4), (true, 5), (false, 6)] (by kernel_rfl) (by kernel_rfl) (by intro c a d v w h; cases d <;> exact h) ?_
        intro W1 K1 C1
        repeat (refine wpS_firm rfl (fun K hK => ?_); simp only [Keep]; go_simp; refine hK _ ?_; clear hK K)
        have XR1 := Lib.hid (blk_below XR2.out C1.out)
        refine wpS_chain rfl ?_
        refine copy_part rfl (.tmp 47) (.tmp 51) rfl (w.heap.size + 1) 2 (by omega) (idsK l 2) (idsK_ok HL4.out 2) 44 XR1.out rfl (.slice (some ⟨g, o4, none⟩) n4 k4) (l.drop (a2 + 4)) c rfl (BR4.out.below C1.out) (by rw [List.length_drop, HL4.out]; simp only [lenI]; omega) HTK.out ?_
        rw [HNX.out]
        go_wp2_with fail
        refine ⟨K1.out.row rfl _, ?_⟩
        unfold wpS
        clear hr4 hsum
        go_wp2
        go_meet
        exact ⟨by rw [HAT.out]; go_num, setRow_heap _ _ _ _ _ _ XR1.out, CR2.out.trans ((Chg.of_below C1.out).trans (Chg.setRow (B := fun b => b = w.heap.size + 1) (g := w.heap.size + 1) _ rfl _))⟩
    obtain ⟨rfl, hx, hc⟩ := hcut
    obtain ⟨wq3, eq3⟩ : ∃ z, z = wc := ⟨_, rfl⟩
    subst eq3
    have XR3 := Lib.hid hx; have CR3 := Lib.hid hc
    have ha3' := atI_le l 3
    obtain ⟨a3, ha3⟩ : ∃ a, atI l 3 = a := ⟨_, rfl⟩
    have HA3 := Lib.hid ha3
    rw [ha3] at ha3' ⊢
    have ha60 : a3 ≤ 60 := by omega
    clear hx hc ha3 ha3' HH HAT hq2 c0
    obtain ⟨y3, hy⟩ : ∃ y, l[a3]? = some y := ⟨_, List.getElem?_eq_getElem (by have := HL4.out; omega)⟩
    have c0 : wq3.cell? ⟨g, o + a3, none⟩ = some (.int .u8 (uv y3)) := (BV.out.chg CR3.out OFF.out).cellAt hy
    obtain ⟨hit, hhit⟩ : ∃ b, hitI l 3 = b := ⟨_, rfl⟩
    have hq : (y3 == 4#8) = hit := by
      have h := hhit
      unfold hitI at h
      rw [HA3.out, hy] at h
      rw [← h]
      exact (rfl : (y3 == 4#8) = (some y3 == some 4#8))
    have hq2 : (uv y3 == 4) = hit := by rw [← hq]; exact uv_beq y3 4#8
    have HH := Lib.hid hhit
    obtain ⟨z, hz⟩ : ∃ z, l[a3 + 4]? = some z := ⟨_, List.getElem?_eq_getElem (by have := HL4.out; omega)⟩
    have c4 : wq3.cell? ⟨g, o + (a3 + 4), none⟩ = some (.int .u8 (uv z)) := (BV.out.chg CR3.out OFF.out).cellAt hz
    have HZ := Lib.hid hz
    clear hy hhit hq hz
    go_upto_if 59 with (fail)
    go_cut [] (fun wx => wx.heap[w.heap.size + 1]? = some (.cells (Ids.cells (rdI l)).toArray 44 (0, 0)) ∧ Chg (fun b => b = w.heap.size + 1) W wx)
    case first =>
      cases hit
      · go_wp2
        go_meet
        refine ⟨?_, CR3.out⟩
        rw [← idsK_3, show setI l = 0#8 by unfold setI; rw [HH.out]; rfl]
        exact XR3.out
      · have cX := (cell_of_row _ _ 40 _ _ _ XR3.out).trans (show (Ids.cells (idsK l 3)).toArray[40]? = some (.int .u8 0) by
          have hok := idsK_ok HL4.out 3
          rw [List.getElem?_toArray, Ids.cells_eq, ← List.append_assoc, ← List.append_assoc, List.getElem?_append_right (by simp [hok.1, hok.2.1, hok.2.2])]
          simp [hok.1, hok.2.1, hok.2.2]; rfl)
        have fX := frozen_of_row _ _ 40 _ _ XR3.out
        go_wp2
        go_meet
        refine ⟨?_, CR3.out.trans (Chg.setCell (B := fun b => b = w.heap.size + 1) (p := ⟨w.heap.size + 1, 40, none⟩) _ rfl _)⟩
        have hs : setI l = z + 1#8 := by unfold setI; rw [HH.out, HA3.out, List.getD_eq_getElem?_getD, HZ.out]; rfl
        rw [← idsK_3, hs, ← cells_set _ (idsK_ok HL4.out 3)]
        exact heap_setCell_same _ _ _ _ _ _ XR3.out
    obtain ⟨hx, hc⟩ := hcut
    obtain ⟨wB, eB⟩ : ∃ z, z = wc := ⟨_, rfl⟩
    subst eB
    have CB := Lib.hid hc
    clear hc c0 c4 hq2
    obtain ⟨x, hxx⟩ : ∃ x, rdI l = x := ⟨_, rfl⟩
    rw [hxx] at hx
    have HX := Lib.hid hxx; have XC := Lib.hid hx
    have SZX := Lib.hid (show (Ids.cells x).toArray.size = 41 by rw [← hxx]; exact cells_sz (rdI_ok HL4.out))
    clear hx hxx
    go_upto_region 17 with (fail)
    obtain ⟨bq, hbq⟩ : ∃ b, (idsB x == l) = b := ⟨_, rfl⟩
    have HQ := Lib.hid hbq; clear hbq
    have BVB := Lib.hid (BV.out.chg CB.out OFF.out)
    have AB := Lib.hid (CB.out.blk XA.out (by omega))
    have DB := Lib.hid (CB.out.fresh D.out (fun k h => by omega))
    have qs : ∀ z : KeepT nowhere wB, (convert 28 9 (.slice (some ⟨g, o, none⟩) 4096 cv)).run Try.prog z.val = .ok (.string (strOf l)) z.val := fun z => str_at (BVB.out.keepT z)
    have h3 : ((strOf (idsB x)).toList == (strOf l).toList) = bq := by rw [strOf_beq]; exact HQ.out
    have h4 : ((strOf (idsB x)).toList != (strOf l).toList) = !bq := by rw [bne, h3]
    refine wp_region_planW nowhere [(true, 0), (true, 3), (true, 4), (false, 1), (false, 2), (true, 5)] (by kernel_rfl) (by kernel_rfl) (by intro c a d v w h; cases d <;> exact h) ?_
    intro W1 K1 C1
    refine wpS_load_row rfl rfl 44 (.tmp 4) rfl (w.heap.size + 1) rfl 44 (Ids.cells x).toArray (0, 0) _ (fun z hz => hz.blk XC.out) Try.underlying44 rfl (by rw [SZX.out]; kernel_rfl) ?_
    repeat (refine wpS_firm rfl (fun K hK => ?_); simp only [Keep]; go_simp; refine hK _ ?_; clear hK K)
    refine wpS_chain rfl ?_
    go_wp2_with (go_at_call 17; go_loud (refine (rEncI_at x _ (by rw [← HX.out]; exact rdI_ok HL4.out)).mono ?_; rintro r w2 ⟨u, rfl, hu, hw⟩; have U := Lib.hid hu; have K2 := Lib.hid (K1.out.below hw); have C2 := Lib.hid (gr_tr C1.out hw); clear hu hw))
    refine ⟨K2.out, ?_⟩
    refine wpS_chain rfl ?_
    have hs2 := str_at U.out
    go_wp2
    refine ⟨K2.out, ?_⟩
    repeat (refine wpS_firm rfl (fun K hK => ?_); simp only [Keep]; go_simp; refine hK _ ?_; clear hK K)
    unfold wpS
    have A2 := Lib.hid (blk_below AB.out C2.out)
    have X2 := Lib.hid (blk_below XC.out C2.out)
    have D2 := Lib.hid (gr_tr DB.out C2.out)
    clear qs h3 h4 hs2
    cases bq
    · have ZB := Lib.hid (Ids_lit)
      go_wp2_with (rw [← ZB.out]; refine wpList_store_row rfl 44 (.tmp 2) (.tmp 73) rfl w.heap.size (Ids.cells idsZ).toArray rfl rfl 44 _ A2.out (by rw [SZZ.out]; kernel_rfl) rfl (Ids.cells_one _) ?_)
      obtain ⟨e1, e2⟩ : y = idsZ ∧ e = 6 := by
        have h := HD.out
        unfold decV at h
        rw [if_neg (by have := HL4.out; omega), if_neg (by have := HL4.out; omega), okI_rd HL4.out, HX.out, HQ.out] at h
        simp at h
        exact ⟨h.1.symm, h.2.symm⟩
      rw [e1, e2]
      exact bodyPost_ret (results_row_tmp rfl _ _ w.heap.size 44 (Ids.cells idsZ).toArray (0, 0) _ rfl (setRow_heap _ _ _ _ _ _ A2.out) Try.underlying44 rfl (by rw [SZZ.out]; kernel_rfl)) rfl ⟨rfl, below_setRow D2.out (Nat.le_refl _) _⟩
    · go_wp2_with (first
        | (refine wpList_load_row rfl 44 (.tmp 4) rfl (w.heap.size + 1) rfl 44 _ (0, 0) _ X2.out Try.underlying44 rfl (by rw [SZX.out]; kernel_rfl) ?_)
        | (refine wpList_store_row rfl 44 (.tmp 2) (.tmp 74) rfl w.heap.size (Ids.cells x).toArray rfl rfl 44 _ A2.out (by rw [SZX.out]; kernel_rfl) (by rw [SZX.out, SZZ.out]) (Ids.cells_one _) ?_))
      obtain ⟨e1, e2⟩ : y = x ∧ e = 0 := by
        have h := HD.out
        unfold decV at h
        rw [if_neg (by have := HL4.out; omega), if_neg (by have := HL4.out; omega), okI_rd HL4.out, HX.out, HQ.out] at h
        simp at h
        exact ⟨h.1.symm, h.2.symm⟩
      rw [e1, e2]
      exact bodyPost_ret (results_row_tmp rfl _ _ w.heap.size 44 (Ids.cells x).toArray (0, 0) _ rfl (setRow_heap _ _ _ _ _ _ A2.out) Try.underlying44 rfl (by rw [SZX.out]; kernel_rfl)) rfl ⟨rfl, below_setRow D2.out (Nat.le_refl _) _⟩
  · by_cases p1 : l.length < 4096
    · have ec : (if l.length < 4096 then (4 : Int) else if 4096 < l.length then 5 else 0) = 4 := by rw [if_pos p1]
      have EC := Lib.hid ec; clear ec
      go_enter Try.func21, Try.ntmps21
      go_upto_region 2 with (fail)
      rw [← HW.out]
      go_wp2_with (first
        | (go_at_call 51; go_loud (refine (check_any _ l 4 _ (BV0.out.below D.out) EC.out).mono ?_; rintro r w' ⟨rfl, rfl⟩))
        | (refine wpList_load_row rfl 44 (.tmp 4) rfl (w.heap.size + 1) rfl 44 _ (0, 0) _ XB.out Try.underlying44 rfl (by rw [SZZ.out]; kernel_rfl) ?_)
        | (refine wpList_store_row rfl 44 (.tmp 2) (.tmp 11) rfl w.heap.size (Ids.cells idsZ).toArray rfl rfl 44 _ XA.out (by rw [SZZ.out]; kernel_rfl) rfl (Ids.cells_one _) ?_))
      obtain ⟨e1, e2⟩ : y = idsZ ∧ e = 4 := by
        have h := HD.out
        unfold decV at h
        rw [if_pos p1] at h
        simp at h
        exact ⟨h.1.symm, h.2.symm⟩
      rw [e1, e2]
      exact bodyPost_ret (results_row_tmp rfl _ _ w.heap.size 44 (Ids.cells idsZ).toArray (0, 0) _ rfl (setRow_heap _ _ _ _ _ _ XA.out) Try.underlying44 rfl (by rw [SZZ.out]; kernel_rfl)) rfl ⟨rfl, below_setRow D.out (Nat.le_refl _) _⟩
    · have ec : (if l.length < 4096 then (4 : Int) else if 4096 < l.length then 5 else 0) = 5 := by rw [if_neg p1, if_pos (by omega)]
      have EC := Lib.hid ec; clear ec
      go_enter Try.func21, Try.ntmps21
      go_upto_region 2 with (fail)
      rw [← HW.out]
      go_wp2_with (first
        | (go_at_call 51; go_loud (refine (check_any _ l 5 _ (BV0.out.below D.out) EC.out).mono ?_; rintro r w' ⟨rfl, rfl⟩))
        | (refine wpList_load_row rfl 44 (.tmp 4) rfl (w.heap.size + 1) rfl 44 _ (0, 0) _ XB.out Try.underlying44 rfl (by rw [SZZ.out]; kernel_rfl) ?_)
        | (refine wpList_store_row rfl 44 (.tmp 2) (.tmp 11) rfl w.heap.size (Ids.cells idsZ).toArray rfl rfl 44 _ XA.out (by rw [SZZ.out]; kernel_rfl) rfl (Ids.cells_one _) ?_))
      obtain ⟨e1, e2⟩ : y = idsZ ∧ e = 5 := by
        have h := HD.out
        unfold decV at h
        rw [if_neg p1, if_pos (by omega)] at h
        simp at h
        exact ⟨h.1.symm, h.2.symm⟩
      rw [e1, e2]
      exact bodyPost_ret (results_row_tmp rfl _ _ w.heap.size 44 (Ids.cells idsZ).toArray (0, 0) _ rfl (setRow_heap _ _ _ _ _ _ XA.out) Try.underlying44 rfl (by rw [SZZ.out]; kernel_rfl)) rfl ⟨rfl, below_setRow D.out (Nat.le_refl _) _⟩
end Go.Proofs.Ytccllneifkeimaa
