/- The reference's EncodeNamespace. Printed by genrns.py. -/
import Derived.Test.YtccllneifkeimaaRefNsM
namespace Go.Proofs.Ytccllneifkeimaa
open Go.RowKit Idn
set_option linter.unusedVariables false
set_option linter.unusedSimpArgs false
namespace Idn
def stH (vs : List (BitVec 64)) (j : Nat) : List (BitVec 8) := Lay.lays zeros ((List.range j).map (fN vs))
theorem stH_succ (vs : List (BitVec 64)) (j : Nat) (a n : Nat) (c : Nat) (k : Kd) (h : nsSpec[j]? = some (a, k, c)) (hn : k.size = n) : stH vs (j + 1) = Lay.lay (stH vs j) a (Wire.le (gv vs j) n) := by
  subst hn
  unfold stH
  rw [List.range_succ, List.map_append, Lay.lays_append]
  have e : fN vs j = (a, Wire.le (gv vs j) k.size) := by unfold fN; rw [List.getD_eq_getElem?_getD, h]; rfl
  rw [List.map_cons, List.map_nil, e]; rfl
end Idn
set_option maxHeartbeats 6400000 in
set_option maxRecDepth 100000 in
theorem rEncNs_at (vs : List (BitVec 64)) (E : Int) (B : List (BitVec 8)) (w : World) (hv : NsOk vs) (hE : nsE vs = E) (hB : nsR vs = B) :
    Calls Try.prog 23 #[.agg (nsC vs).toArray] w fun e w' => ∃ u, e = .returned (.tuple #[u, .int .i64 E]) ∧ BytesV w' u B ∧ Below w.heap.size w w' := by
  have HE := Lib.hid hE; have HB := Lib.hid hB
  clear hE hB
  obtain ⟨W, hW⟩ : ∃ W, W = w.alloc (.cells (nsC vs).toArray 59) := ⟨_, rfl⟩
  have BX := Lib.hid (show W.heap[w.heap.size]? = some (.cells (nsC vs).toArray 59 (0, 0)) by rw [hW]; exact heap_alloc_new w _)
  have D := Lib.hid (show Below w.heap.size w W by rw [hW]; exact gr_alloc w _)
  have HS := Lib.hid (show w.heap.size < W.heap.size by rw [hW]; simp)
  have HW := Lib.hid hW
  have HV := Lib.hid hv
  have FC := Lib.hid (ns_fits hv)
  have CB := Lib.hid (fun k hk => cell_blk hv.1 k hk)
  have C4 := Lib.hid (cell_ns hv.1 (j := 4) (s := (25, .u8, 4)) rfl)
  have C5 := Lib.hid (cell_ns hv.1 (j := 5) (s := (26, .u8, 5)) rfl)
  have K0 := Lib.hid (cell_ns hv.1 (j := 0) (s := (0, .u64, 0)) rfl)
  have K1 := Lib.hid (cell_ns hv.1 (j := 1) (s := (8, .u64, 1)) rfl)
  have K2 := Lib.hid (cell_ns hv.1 (j := 2) (s := (16, .u64, 2)) rfl)
  have K3 := Lib.hid (cell_ns hv.1 (j := 3) (s := (24, .u8, 3)) rfl)
  have K4 := Lib.hid (cell_ns hv.1 (j := 4) (s := (25, .u8, 4)) rfl)
  have K5 := Lib.hid (cell_ns hv.1 (j := 5) (s := (26, .u8, 5)) rfl)
  have K6 := Lib.hid (cell_ns hv.1 (j := 6) (s := (27, .u8, 6)) rfl)
  have K7 := Lib.hid (cell_ns hv.1 (j := 7) (s := (28, .u8, 7)) rfl)
  have K8 := Lib.hid (cell_ns hv.1 (j := 8) (s := (29, .u8, 8)) rfl)
  have K9 := Lib.hid (cell_ns hv.1 (j := 9) (s := (30, .u8, 9)) rfl)
  have K10 := Lib.hid (cell_ns hv.1 (j := 10) (s := (31, .u8, 10)) rfl)
  have K11 := Lib.hid (cell_ns hv.1 (j := 11) (s := (34, .u16, 11)) rfl)
  have K12 := Lib.hid (cell_ns hv.1 (j := 12) (s := (36, .u16, 12)) rfl)
  have K13 := Lib.hid (cell_ns hv.1 (j := 13) (s := (38, .u16, 13)) rfl)
  have K14 := Lib.hid (cell_ns hv.1 (j := 14) (s := (92, .u32, 14)) rfl)
  have K15 := Lib.hid (cell_ns hv.1 (j := 15) (s := (120, .u64, 15)) rfl)
  have KG := Lib.hid (fun k (hk : k < 16) => cell_ns hv.1 (guid_at k hk))
  have HL := Lib.hid (nsC_len hv.1)
  obtain ⟨cl, hcl⟩ : ∃ cl, nsC vs = cl := ⟨_, rfl⟩
  rw [hcl] at HW BX FC CB C4 C5 HL KG K0 K1 K2 K3 K4 K5 K6 K7 K8 K9 K10 K11 K12 K13 K14 K15 ⊢
  have k4 := (cell_of_row _ _ 4 _ _ _ BX.out).trans (show cl.toArray[4]? = some (.int .u8 (uv (fmtsN vs))) by rw [List.getElem?_toArray]; exact C4.out)
  have k5 := (cell_of_row _ _ 5 _ _ _ BX.out).trans (show cl.toArray[5]? = some (.int .u8 (uv (fmtN vs))) by rw [List.getElem?_toArray]; exact C5.out)
  obtain ⟨f, hf⟩ : ∃ f, fmtsN vs = f := ⟨_, rfl⟩
  obtain ⟨m, hm⟩ : ∃ m, fmtN vs = m := ⟨_, rfl⟩
  rw [hf] at k4; rw [hm] at k5
  have HF := Lib.hid hf
  have hbh : badHead vs = (decide (15 < uv f) || decide (uv f < uv m % 16)) := by unfold badHead; rw [hf, hm]
  have HBH := Lib.hid hbh
  have htm : (uv m).tmod 16 = uv m % 16 := Int.tmod_eq_emod_of_nonneg (uv_nonneg _)
  have HTM := Lib.hid htm
  clear hW hv hcl hf hm hbh
  obtain ⟨t1, h1⟩ : ∃ t, decide (15 < uv f) = t := ⟨_, rfl⟩
  obtain ⟨t2, h2⟩ : ∃ t, decide (uv f < (uv m).tmod 16) = t := ⟨_, rfl⟩
  have HB2 := Lib.hid (show badHead vs = (t1 || t2) by rw [HBH.out, ← h1, ← h2, htm])
  clear htm
  have bad : badHead vs = true → E = 2 ∧ B = [] := fun h => by
    have ho : okNs vs = false := by unfold okNs; rw [h]; rfl
    refine ⟨by rw [← HE.out]; unfold nsE; rw [ho]; rfl, by rw [← HB.out]; unfold nsR; rw [ho]; rfl⟩
  have BAD := Lib.hid bad
  clear bad
  cases t1
  · cases t2
    · have D0 := D
      go_enter Try.func23, Try.ntmps23
      go_upto_region 1 with (fail)
      rw [← HW.out]
      have HBH2 := Lib.hid (show badHead vs = false from HB2.out)
      go_upto_region 4 with (refine make_law bytesOk rfl _ _ rfl W.heap.size .i64 .i64 4096 4096 4096 rfl rfl rfl rfl (by omega) (by omega) (Nat.le_refl _) ?_; intro w2 hown hgrow; have O2 := Lib.hid (show Own4 w2 W.heap.size W.heap.size 4096 (stH vs 0) by have h := hown; rw [by8_made] at h; exact h); have D2 := Lib.hid ((Below.refl W.heap.size W).grown hgrow (Nat.le_refl _) (by intro k hk; cases hk)); replace BX := Lib.hid (blk_below BX.out D2.out); replace D := Lib.hid (gr_tr D.out D2.out); have Q0 := Lib.hid (Chg.refl (fun b => b = W.heap.size) w2); clear hgrow hown)
      clear k4 k5 h1 h2
      have k0 := (cell_of_row _ _ 0 _ _ _ (Chg.blk (k := w.heap.size) Q0.out BX.out (fun h => by have := HS.out; omega))).trans (show cl.toArray[0]? = some (.int .u64 (uv (gv vs 0))) by rw [List.getElem?_toArray]; exact K0.out)
      go_upto_region 5 with (go_at_call 40; go_loud (refine (rput_any W.heap.size 4096 W.heap.size _ 0 8 (gv vs 0) _ O2.out (by omega) (by omega)).mono ?_; rintro r wn0 ⟨rfl, ho, hc⟩; have P0 := Lib.hid (show Own4 wn0 W.heap.size W.heap.size 4096 (stH vs 1) by rw [stH_succ vs 0 0 8 _ _ rfl rfl]; exact ho); have Q1 := Lib.hid (Q0.out.trans hc); clear ho hc))
      clear k0
      have k1 := (cell_of_row _ _ 1 _ _ _ (Chg.blk (k := w.heap.size) Q1.out BX.out (fun h => by have := HS.out; omega))).trans (show cl.toArray[1]? = some (.int .u64 (uv (gv vs 1))) by rw [List.getElem?_toArray]; exact K1.out)
      go_upto_region 6 with (go_at_call 40; go_loud (refine (rput_any W.heap.size 4096 W.heap.size _ 8 8 (gv vs 1) _ P0.out (by omega) (by omega)).mono ?_; rintro r wn1 ⟨rfl, ho, hc⟩; have P1 := Lib.hid (show Own4 wn1 W.heap.size W.heap.size 4096 (stH vs 2) by rw [stH_succ vs 1 8 8 _ _ rfl rfl]; exact ho); have Q2 := Lib.hid (Q1.out.trans hc); clear ho hc))
      clear k1
      have k2 := (cell_of_row _ _ 2 _ _ _ (Chg.blk (k := w.heap.size) Q2.out BX.out (fun h => by have := HS.out; omega))).trans (show cl.toArray[2]? = some (.int .u64 (uv (gv vs 2))) by rw [List.getElem?_toArray]; exact K2.out)
      go_upto_region 7 with (go_at_call 40; go_loud (refine (rput_any W.heap.size 4096 W.heap.size _ 16 8 (gv vs 2) _ P1.out (by omega) (by omega)).mono ?_; rintro r wn2 ⟨rfl, ho, hc⟩; have P2 := Lib.hid (show Own4 wn2 W.heap.size W.heap.size 4096 (stH vs 3) by rw [stH_succ vs 2 16 8 _ _ rfl rfl]; exact ho); have Q3 := Lib.hid (Q2.out.trans hc); clear ho hc))
      clear k2
      have k3 := (cell_of_row _ _ 3 _ _ _ (Chg.blk (k := w.heap.size) Q3.out BX.out (fun h => by have := HS.out; omega))).trans (show cl.toArray[3]? = some (.int .u8 (uv ((gv vs 3).setWidth 8))) by rw [List.getElem?_toArray]; exact K3.out)
      go_upto_region 8 with (go_at_call 40; go_loud (refine (rput_any W.heap.size 4096 W.heap.size _ 24 1 (((gv vs 3).setWidth 8).setWidth 64) _ P2.out (by omega) (by omega)).mono ?_; rintro r wn3 ⟨rfl, ho, hc⟩; have P3 := Lib.hid (show Own4 wn3 W.heap.size W.heap.size 4096 (stH vs 4) by rw [stH_succ vs 3 24 1 _ _ rfl rfl, ← le_set (gv vs 3) 8 1 (by omega)]; exact ho); have Q4 := Lib.hid (Q3.out.trans hc); clear ho hc))
      clear k3
      have k4 := (cell_of_row _ _ 4 _ _ _ (Chg.blk (k := w.heap.size) Q4.out BX.out (fun h => by have := HS.out; omega))).trans (show cl.toArray[4]? = some (.int .u8 (uv ((gv vs 4).setWidth 8))) by rw [List.getElem?_toArray]; exact K4.out)
      go_upto_region 9 with (go_at_call 40; go_loud (refine (rput_any W.heap.size 4096 W.heap.size _ 25 1 (((gv vs 4).setWidth 8).setWidth 64) _ P3.out (by omega) (by omega)).mono ?_; rintro r wn4 ⟨rfl, ho, hc⟩; have P4 := Lib.hid (show Own4 wn4 W.heap.size W.heap.size 4096 (stH vs 5) by rw [stH_succ vs 4 25 1 _ _ rfl rfl, ← le_set (gv vs 4) 8 1 (by omega)]; exact ho); have Q5 := Lib.hid (Q4.out.trans hc); clear ho hc))
      clear k4
      have k5 := (cell_of_row _ _ 5 _ _ _ (Chg.blk (k := w.heap.size) Q5.out BX.out (fun h => by have := HS.out; omega))).trans (show cl.toArray[5]? = some (.int .u8 (uv ((gv vs 5).setWidth 8))) by rw [List.getElem?_toArray]; exact K5.out)
      go_upto_region 10 with (go_at_call 40; go_loud (refine (rput_any W.heap.size 4096 W.heap.size _ 26 1 (((gv vs 5).setWidth 8).setWidth 64) _ P4.out (by omega) (by omega)).mono ?_; rintro r wn5 ⟨rfl, ho, hc⟩; have P5 := Lib.hid (show Own4 wn5 W.heap.size W.heap.size 4096 (stH vs 6) by rw [stH_succ vs 5 26 1 _ _ rfl rfl, ← le_set (gv vs 5) 8 1 (by omega)]; exact ho); have Q6 := Lib.hid (Q5.out.trans hc); clear ho hc))
      clear k5
      have k6 := (cell_of_row _ _ 6 _ _ _ (Chg.blk (k := w.heap.size) Q6.out BX.out (fun h => by have := HS.out; omega))).trans (show cl.toArray[6]? = some (.int .u8 (uv ((gv vs 6).setWidth 8))) by rw [List.getElem?_toArray]; exact K6.out)
      go_upto_region 11 with (go_at_call 40; go_loud (refine (rput_any W.heap.size 4096 W.heap.size _ 27 1 (((gv vs 6).setWidth 8).setWidth 64) _ P5.out (by omega) (by omega)).mono ?_; rintro r wn6 ⟨rfl, ho, hc⟩; have P6 := Lib.hid (show Own4 wn6 W.heap.size W.heap.size 4096 (stH vs 7) by rw [stH_succ vs 6 27 1 _ _ rfl rfl, ← le_set (gv vs 6) 8 1 (by omega)]; exact ho); have Q7 := Lib.hid (Q6.out.trans hc); clear ho hc))
      clear k6
      have k7 := (cell_of_row _ _ 7 _ _ _ (Chg.blk (k := w.heap.size) Q7.out BX.out (fun h => by have := HS.out; omega))).trans (show cl.toArray[7]? = some (.int .u8 (uv ((gv vs 7).setWidth 8))) by rw [List.getElem?_toArray]; exact K7.out)
      go_upto_region 12 with (go_at_call 40; go_loud (refine (rput_any W.heap.size 4096 W.heap.size _ 28 1 (((gv vs 7).setWidth 8).setWidth 64) _ P6.out (by omega) (by omega)).mono ?_; rintro r wn7 ⟨rfl, ho, hc⟩; have P7 := Lib.hid (show Own4 wn7 W.heap.size W.heap.size 4096 (stH vs 8) by rw [stH_succ vs 7 28 1 _ _ rfl rfl, ← le_set (gv vs 7) 8 1 (by omega)]; exact ho); have Q8 := Lib.hid (Q7.out.trans hc); clear ho hc))
      clear k7
      have k8 := (cell_of_row _ _ 8 _ _ _ (Chg.blk (k := w.heap.size) Q8.out BX.out (fun h => by have := HS.out; omega))).trans (show cl.toArray[8]? = some (.int .u8 (uv ((gv vs 8).setWidth 8))) by rw [List.getElem?_toArray]; exact K8.out)
      go_upto_region 13 with (go_at_call 40; go_loud (refine (rput_any W.heap.size 4096 W.heap.size _ 29 1 (((gv vs 8).setWidth 8).setWidth 64) _ P7.out (by omega) (by omega)).mono ?_; rintro r wn8 ⟨rfl, ho, hc⟩; have P8 := Lib.hid (show Own4 wn8 W.heap.size W.heap.size 4096 (stH vs 9) by rw [stH_succ vs 8 29 1 _ _ rfl rfl, ← le_set (gv vs 8) 8 1 (by omega)]; exact ho); have Q9 := Lib.hid (Q8.out.trans hc); clear ho hc))
      clear k8
      have k9 := (cell_of_row _ _ 9 _ _ _ (Chg.blk (k := w.heap.size) Q9.out BX.out (fun h => by have := HS.out; omega))).trans (show cl.toArray[9]? = some (.int .u8 (uv ((gv vs 9).setWidth 8))) by rw [List.getElem?_toArray]; exact K9.out)
      go_upto_region 14 with (go_at_call 40; go_loud (refine (rput_any W.heap.size 4096 W.heap.size _ 30 1 (((gv vs 9).setWidth 8).setWidth 64) _ P8.out (by omega) (by omega)).mono ?_; rintro r wn9 ⟨rfl, ho, hc⟩; have P9 := Lib.hid (show Own4 wn9 W.heap.size W.heap.size 4096 (stH vs 10) by rw [stH_succ vs 9 30 1 _ _ rfl rfl, ← le_set (gv vs 9) 8 1 (by omega)]; exact ho); have Q10 := Lib.hid (Q9.out.trans hc); clear ho hc))
      clear k9
      have k10 := (cell_of_row _ _ 10 _ _ _ (Chg.blk (k := w.heap.size) Q10.out BX.out (fun h => by have := HS.out; omega))).trans (show cl.toArray[10]? = some (.int .u8 (uv ((gv vs 10).setWidth 8))) by rw [List.getElem?_toArray]; exact K10.out)
      go_upto_region 15 with (go_at_call 40; go_loud (refine (rput_any W.heap.size 4096 W.heap.size _ 31 1 (((gv vs 10).setWidth 8).setWidth 64) _ P9.out (by omega) (by omega)).mono ?_; rintro r wn10 ⟨rfl, ho, hc⟩; have P10 := Lib.hid (show Own4 wn10 W.heap.size W.heap.size 4096 (stH vs 11) by rw [stH_succ vs 10 31 1 _ _ rfl rfl, ← le_set (gv vs 10) 8 1 (by omega)]; exact ho); have Q11 := Lib.hid (Q10.out.trans hc); clear ho hc))
      clear k10
      have k11 := (cell_of_row _ _ 11 _ _ _ (Chg.blk (k := w.heap.size) Q11.out BX.out (fun h => by have := HS.out; omega))).trans (show cl.toArray[11]? = some (.int .u16 (uv ((gv vs 11).setWidth 16))) by rw [List.getElem?_toArray]; exact K11.out)
      go_upto_region 16 with (go_at_call 40; go_loud (refine (rput_any W.heap.size 4096 W.heap.size _ 34 2 (((gv vs 11).setWidth 16).setWidth 64) _ P10.out (by omega) (by omega)).mono ?_; rintro r wn11 ⟨rfl, ho, hc⟩; have P11 := Lib.hid (show Own4 wn11 W.heap.size W.heap.size 4096 (stH vs 12) by rw [stH_succ vs 11 34 2 _ _ rfl rfl, ← le_set (gv vs 11) 16 2 (by omega)]; exact ho); have Q12 := Lib.hid (Q11.out.trans hc); clear ho hc))
      clear k11
      have k12 := (cell_of_row _ _ 12 _ _ _ (Chg.blk (k := w.heap.size) Q12.out BX.out (fun h => by have := HS.out; omega))).trans (show cl.toArray[12]? = some (.int .u16 (uv ((gv vs 12).setWidth 16))) by rw [List.getElem?_toArray]; exact K12.out)
      go_upto_region 17 with (go_at_call 40; go_loud (refine (rput_any W.heap.size 4096 W.heap.size _ 36 2 (((gv vs 12).setWidth 16).setWidth 64) _ P11.out (by omega) (by omega)).mono ?_; rintro r wn12 ⟨rfl, ho, hc⟩; have P12 := Lib.hid (show Own4 wn12 W.heap.size W.heap.size 4096 (stH vs 13) by rw [stH_succ vs 12 36 2 _ _ rfl rfl, ← le_set (gv vs 12) 16 2 (by omega)]; exact ho); have Q13 := Lib.hid (Q12.out.trans hc); clear ho hc))
      clear k12
      have k13 := (cell_of_row _ _ 13 _ _ _ (Chg.blk (k := w.heap.size) Q13.out BX.out (fun h => by have := HS.out; omega))).trans (show cl.toArray[13]? = some (.int .u16 (uv ((gv vs 13).setWidth 16))) by rw [List.getElem?_toArray]; exact K13.out)
      go_upto_region 18 with (go_at_call 40; go_loud (refine (rput_any W.heap.size 4096 W.heap.size _ 38 2 (((gv vs 13).setWidth 16).setWidth 64) _ P12.out (by omega) (by omega)).mono ?_; rintro r wn13 ⟨rfl, ho, hc⟩; have P13 := Lib.hid (show Own4 wn13 W.heap.size W.heap.size 4096 (stH vs 14) by rw [stH_succ vs 13 38 2 _ _ rfl rfl, ← le_set (gv vs 13) 16 2 (by omega)]; exact ho); have Q14 := Lib.hid (Q13.out.trans hc); clear ho hc))
      clear k13
      have k14 := (cell_of_row _ _ 14 _ _ _ (Chg.blk (k := w.heap.size) Q14.out BX.out (fun h => by have := HS.out; omega))).trans (show cl.toArray[14]? = some (.int .u32 (uv ((gv vs 14).setWidth 32))) by rw [List.getElem?_toArray]; exact K14.out)
      go_upto_region 19 with (go_at_call 40; go_loud (refine (rput_any W.heap.size 4096 W.heap.size _ 92 4 (((gv vs 14).setWidth 32).setWidth 64) _ P13.out (by omega) (by omega)).mono ?_; rintro r wn14 ⟨rfl, ho, hc⟩; have P14 := Lib.hid (show Own4 wn14 W.heap.size W.heap.size 4096 (stH vs 15) by rw [stH_succ vs 14 92 4 _ _ rfl rfl, ← le_set (gv vs 14) 32 4 (by omega)]; exact ho); have Q15 := Lib.hid (Q14.out.trans hc); clear ho hc))
      clear k14
      have k15 := (cell_of_row _ _ 15 _ _ _ (Chg.blk (k := w.heap.size) Q15.out BX.out (fun h => by have := HS.out; omega))).trans (show cl.toArray[15]? = some (.int .u64 (uv (gv vs 15))) by rw [List.getElem?_toArray]; exact K15.out)
      go_upto_region 20 with (go_at_call 40; go_loud (refine (rput_any W.heap.size 4096 W.heap.size _ 120 8 (gv vs 15) _ P14.out (by omega) (by omega)).mono ?_; rintro r wn15 ⟨rfl, ho, hc⟩; have P15 := Lib.hid (show Own4 wn15 W.heap.size W.heap.size 4096 (stH vs 16) by rw [stH_succ vs 15 120 8 _ _ rfl rfl]; exact ho); have Q16 := Lib.hid (Q15.out.trans hc); clear ho hc))
      clear k15
      have BE := Lib.hid (Q16.out.fresh D2.out (fun k hk => by omega))
      have BXE := Lib.hid (Chg.blk (k := w.heap.size) Q16.out BX.out (fun h => by have := HS.out; omega))
      go_wp2
      go_loopw [5] (fun i wr => ∃ k : Nat, k ≤ 16 ∧ i = .int .i64 k ∧ Hid (∀ j, j < k → badBlk vs j = false) ∧ Own4 wr W.heap.size W.heap.size 4096 (stN vs k) ∧ Hid (wr.heap[w.heap.size]? = some (.cells cl.toArray 59 (0, 0))) ∧ Below W.heap.size W wr) (fun i _ => 16 - (intOf i).toNat)
      case atStart => exact ⟨0, by omega, rfl, fun j hj => absurd hj (by omega), P15.out, BXE, BE.out⟩
      case round =>
        obtain ⟨k, hk, rfl, OKK, ho, BXr, hb⟩ := hrel
        have OW := Lib.hid ho; have BW := Lib.hid hb; clear ho hb
        by_cases hlt : k < 16
        · obtain ⟨g1, g2, g3⟩ := CB.out k hlt
          have gg := KG.out k hlt
          have hbad : badBlk vs k = (decide (3 < uv (blP vs k)) || (decide (uv f < (k : Int)) && !(uv (blM vs k) == 0 && (uv (blS vs k) == 0 && uv (blP vs k) == 0)))) := by unfold badBlk; rw [HF.out]
          have hst := stN_succ vs k hlt
          rw [← le_set (gv vs (32 + 3 * k)) 16 2 (by omega), show ((gv vs (32 + 3 * k)).setWidth 16) = blM vs k from rfl] at hst
          have hlen := stN_len vs k (by omega)
          obtain ⟨mb, hmb⟩ : ∃ x, blM vs k = x := ⟨_, rfl⟩
          obtain ⟨sb, hsb⟩ : ∃ x, blS vs k = x := ⟨_, rfl⟩
          obtain ⟨pb, hpb⟩ : ∃ x, blP vs k = x := ⟨_, rfl⟩
          obtain ⟨gb, hgb⟩ : ∃ x, (gv vs (16 + k)).setWidth 8 = x := ⟨_, rfl⟩
          obtain ⟨La, hLa⟩ : ∃ L, (stN vs k).set (104 + k) gb = L := ⟨_, rfl⟩
          have hla : La.length = 4096 := by rw [← hLa, List.length_set]; exact hlen
          obtain ⟨Lb, hLb⟩ : ∃ L, Lay.lay La (128 + 4 * k) (Wire.le (mb.setWidth 64) 2) = L := ⟨_, rfl⟩
          have hlb : Lb.length = 4096 := by rw [← hLb, Lay.lay_len (by rw [Wire.le_len]; omega)]; exact hla
          have hst2 : stN vs (k + 1) = (Lb.set (130 + 4 * k) sb).set (131 + 4 * k) pb := by
            rw [hst, Lay.lay_one (l := stN vs k) (p := 104 + k) (gv vs (16 + k)) (by omega), hgb, hLa, hmb, hLb, Lay.lay_one (l := Lb) (p := 130 + 4 * k) (gv vs (32 + 3 * k + 1)) (by omega), Lay.lay_one (p := 131 + 4 * k) (gv vs (32 + 3 * k + 2)) (by rw [List.length_set]; omega), ← hsb, ← hpb]; rfl
          have HST := Lib.hid hst2
          rw [hmb] at g1 hbad; rw [hsb] at g2 hbad; rw [hpb] at g3 hbad
          replace gg : cl[16 + k]? = some (.int .u8 (uv gb)) := by rw [← hgb]; exact gg
          have HLA := Lib.hid hLa; have HLB := Lib.hid hLb; have HNA := Lib.hid hla; have HNB := Lib.hid hlb
          obtain ⟨y0, hy0⟩ : ∃ y, (stN vs k)[104 + k]? = some y := ⟨_, List.getElem?_eq_getElem (by omega)⟩
          have ct := (World.ownsRow.cellAt OW.out (104 + k) (by omega)).trans (by rw [by8_get, hy0]; rfl : _ = some (Value.int .u8 (uv y0)))
          have ft := World.ownsRow.frozenAt OW.out (104 + k)
          have cg := (cell_of_row _ _ (16 + k) _ _ _ BXr.out).trans (show cl.toArray[16 + k]? = some (.int .u8 (uv gb)) by rw [List.getElem?_toArray]; exact gg)
          have G1 := Lib.hid g1; have G2 := Lib.hid g2; have G3 := Lib.hid g3
          obtain ⟨q1, hq1⟩ : ∃ q, decide (3 < uv pb) = q := ⟨_, rfl⟩
          obtain ⟨q2, hq2⟩ : ∃ q, decide (uv f < (k : Int)) = q := ⟨_, rfl⟩
          obtain ⟨zm, hzm⟩ : ∃ q, decide (0 < uv mb) = q := ⟨_, rfl⟩
          obtain ⟨zs, hzs⟩ : ∃ q, decide (0 < uv sb) = q := ⟨_, rfl⟩
          obtain ⟨zp, hzp⟩ : ∃ q, decide (0 < uv pb) = q := ⟨_, rfl⟩
          have hbad2 : badBlk vs k = (q1 || (q2 && (zm || (zs || zp)))) := by
            have hz : ∀ x : Int, 0 ≤ x → (x == 0) = !decide (0 < x) := fun x hx => by
              by_cases h : x = 0
              · subst h; rfl
              · rw [decide_eq_true (by omega)]; simp [h]
            rw [hbad, hq1, hq2, hz _ (uv_nonneg _), hz _ (uv_nonneg _), hz _ (uv_nonneg _), hzm, hzs, hzp]
            cases q1 <;> cases q2 <;> cases zm <;> cases zs <;> cases zp <;> rfl
          have HBAD := Lib.hid hbad2
          have HLT := Lib.hid hlt
          have k4r := (cell_of_row _ _ 4 _ _ _ BXr.out).trans (show cl.toArray[4]? = some (.int .u8 (uv f)) by rw [List.getElem?_toArray, ← HF.out]; exact C4.out)
          clear g1 g2 g3 gg hmb hsb hpb hgb hbad hbad2 hst hst2 hlen hLa hLb hla hlb hy0
          have isbad : badBlk vs k = true → E = 2 ∧ B = [] := fun h => by
            have ho := okNs_no HLT.out h
            refine ⟨by rw [← HE.out]; unfold nsE; rw [ho]; rfl, by rw [← HB.out]; unfold nsR; rw [ho]; rfl⟩
          have ISB := Lib.hid isbad
          clear isbad
          have hkb : (k : Int) < 16 := by omega
          go_upto_region 24 with (fail)
          obtain ⟨wa, hwa⟩ : ∃ z, z = wr.setCell ⟨W.heap.size, 104 + k, none⟩ (.int .u8 (uv gb)) := ⟨_, rfl⟩
          have OA := Lib.hid (show Own4 wa W.heap.size W.heap.size 4096 La by rw [hwa, ← HLA.out, Own4, ← by8_setL]; exact (World.ownsRow.stored OW.out (104 + k) (.int .u8 (uv gb))).1)
          have CA := Lib.hid (show Chg (fun b => b = W.heap.size) wr wa by rw [hwa]; exact Chg.setCell (B := fun b => b = W.heap.size) (p := ⟨W.heap.size, 104 + k, none⟩) _ rfl _)
          rw [← hwa]
          clear hwa ct ft cg k4r
          have BXa := Lib.hid (Chg.blk (k := w.heap.size) CA.out BXr.out (fun h => by have := HS.out; omega))
          have BA := Lib.hid (CA.out.fresh BW.out (fun k hk => by omega))
          have RNG := Lib.hid (show wa.rangeAt w.heap.size (32 + k * 3) [.int .u16 (uv mb), .int .u8 (uv sb), .int .u8 (uv pb)] from fun j v hj => by
            have e : cl[32 + k * 3 + j]? = some v := by
              have hj3 : j < 3 := (List.getElem?_eq_some_iff.1 hj).1
              have hi3 : j = 0 ∨ j = 1 ∨ j = 2 := by omega
              rcases hi3 with rfl | rfl | rfl
              · rw [show 32 + k * 3 + 0 = 32 + 3 * k by omega, G1.out]; exact hj
              · rw [show 32 + k * 3 + 1 = 32 + 3 * k + 1 by omega, G2.out]; exact hj
              · rw [show 32 + k * 3 + 2 = 32 + 3 * k + 2 by omega, G3.out]; exact hj
            exact (cell_of_row _ _ (32 + k * 3 + j) _ _ _ BXa.out).trans (by rw [List.getElem?_toArray]; exact e))
          go_upto_region 25 with (first
            | (refine wpList_load_mid rfl 56 (.tmp 109) rfl w.heap.size (32 + k * 3) rfl [.int .u16 (uv mb), .int .u8 (uv sb), .int .u8 (uv pb)] _ RNG.out Try.underlying56 rfl (by kernel_rfl) ?_)
            | (refine wpList_store_new rfl 56 (.tmp 6) (.tmp 110) rfl #[.int .u16 (uv mb), .int .u8 (uv sb), .int .u8 (uv pb)] 56 _ rfl rfl (by kernel_rfl) rfl (by simp [Value.oneCell']) ?_; intro w6 hh hb; have HH := Lib.hid hh; have HB6 := Lib.hid hb; clear hh hb))
          have O6 := Lib.hid (OA.out.below HB6.out)
          have BX6 := Lib.hid (blk_below BXa.out HB6.out)
          have D6 := Lib.hid (gr_tr BA.out HB6.out)
          have NE6 := Lib.hid (show W.heap.size < wa.heap.size from OA.out.lt.2)
          have p0 := (cell_of_row _ _ 0 _ _ _ HH.out).trans (rfl : _ = some (Value.int .u16 (uv mb)))
          have p1 := (cell_of_row _ _ 1 _ _ _ HH.out).trans (rfl : _ = some (Value.int .u8 (uv sb)))
          have p2 := (cell_of_row _ _ 2 _ _ _ HH.out).trans (rfl : _ = some (Value.int .u8 (uv pb)))
          have k4r := (cell_of_row _ _ 4 _ _ _ BX6.out).trans (show cl.toArray[4]? = some (.int .u8 (uv f)) by rw [List.getElem?_toArray, ← HF.out]; exact C4.out)
          have hw64 : wrap64 (uv f) = uv f := IntWalk.wrap64_in _ (by have := f.isLt; unfold uv; omega)
          cases q1
          · cases q2
            · have OKN := Lib.hid (show ∀ j, j < k + 1 → badBlk vs j = false from fun j hj => by
                by_cases e : j = k
                · subst e; exact HBAD.out
                · exact OKK.out j (by omega))
              go_upto_region 28 with (go_at_call 40; go_loud (rw [show (128 + 4 * (k : Int)) = ((128 + 4 * k : Nat) : Int) by omega]; refine (rput_any W.heap.size 4096 W.heap.size La (128 + 4 * k) 2 (mb.setWidth 64) _ O6.out (by omega) (by omega)).mono ?_; rintro r w7 ⟨rfl, ho, hc⟩; have O7 := Lib.hid (show Own4 w7 W.heap.size W.heap.size 4096 Lb by rw [← HLB.out]; exact ho); have C7 := Lib.hid hc; clear ho hc))
              have HH7 := Lib.hid (Chg.blk (k := wa.heap.size) C7.out HH.out (fun h => by have := NE6.out; omega))
              have BX7 := Lib.hid (Chg.blk (k := w.heap.size) C7.out BX6.out (fun h => by have := HS.out; omega))
              have B7 := Lib.hid (C7.out.fresh D6.out (fun k hk => by omega))
              have hne : ¬ wa.heap.size = W.heap.size := by have := NE6.out; omega
              have m1 : ∀ z : KeepT (fun b => b = W.heap.size) w7, z.val.cell? ⟨wa.heap.size, 1, none⟩ = some (.int .u8 (uv sb)) := fun z => z.cell ((cell_of_row _ _ 1 _ _ _ HH7.out).trans rfl) hne
              have m2 : ∀ z : KeepT (fun b => b = W.heap.size) w7, z.val.cell? ⟨wa.heap.size, 2, none⟩ = some (.int .u8 (uv pb)) := fun z => z.cell ((cell_of_row _ _ 2 _ _ _ HH7.out).trans rfl) hne
              refine wp_region_planW (fun b => b = W.heap.size) [(true, 0), (true, 1), (true, 2), (true, 3), (true, 4), (true, 5), (true, 6), (true, 7), (true, 8), (true, 9), (true, 10), (true, 11), (true, 12), (false, 13), (true, 14), (false, 15)] (by kernel_rfl) (by kernel_rfl) (by intro c a d v w h; cases d <;> exact h) ?_
              have hs0 : IntKind.i64.wrap (4 * (k : Int)) = 4 * (k : Int) := IntWalk.i64_in _ (by omega)
              have hs2 : IntKind.i64.wrap (130 + 4 * (k : Int)) = 130 + 4 * (k : Int) := IntWalk.i64_in _ (by omega)
              have hs3 : IntKind.i64.wrap (131 + 4 * (k : Int)) = 131 + 4 * (k : Int) := IntWalk.i64_in _ (by omega)
              have ha2 : (0 : Int) ≤ 130 + 4 * (k : Int) := by omega
              have ha3 : (0 : Int) ≤ 131 + 4 * (k : Int) := by omega
              have hb2 : (130 + 4 * (k : Int)) < 4096 := by omega
              have hb3 : (131 + 4 * (k : Int)) < 4096 := by omega
              have ht2 : (130 + 4 * (k : Int)).toNat = 130 + 4 * k := by omega
              have ht3 : (131 + 4 * (k : Int)).toNat = 131 + 4 * k := by omega
              intro W1 K1 C1
              repeat (refine wpS_firm rfl (fun K hK => ?_); simp only [Keep]; go_simp; refine hK _ ?_; clear hK K)
              have O8 := Lib.hid (O7.out.below C1.out)
              obtain ⟨y1, hy1⟩ : ∃ y, Lb[130 + 4 * k]? = some y := ⟨_, List.getElem?_eq_getElem (by have := HNB.out; omega)⟩
              obtain ⟨y2, hy2⟩ : ∃ y, Lb[131 + 4 * k]? = some y := ⟨_, List.getElem?_eq_getElem (by have := HNB.out; omega)⟩
              have c1 := (World.ownsRow.cellAt O8.out (130 + 4 * k) (by omega)).trans (by rw [by8_get, hy1]; rfl : _ = some (Value.int .u8 (uv y1)))
              have c2 := (World.ownsRow.cellAt O8.out (131 + 4 * k) (by omega)).trans (by rw [by8_get, hy2]; rfl : _ = some (Value.int .u8 (uv y2)))
              have f1 := World.ownsRow.frozenAt O8.out (130 + 4 * k)
              have f2 := World.ownsRow.frozenAt O8.out (131 + 4 * k)
              refine wpS_chain rfl ?_
              go_wp2
              refine ⟨K1.out.put rfl _, ?_⟩
              repeat (refine wpS_firm rfl (fun K hK => ?_); simp only [Keep]; go_simp; refine hK _ ?_; clear hK K)
              refine wpS_chain rfl ?_
              go_wp2
              first
                | (refine ⟨(K1.out.put rfl _).put rfl _, ?_⟩; unfold wpS)
                | skip
              have O9 := Lib.hid (show Own4 ((W1.setCell ⟨W.heap.size, 130 + 4 * k, none⟩ (.int .u8 (uv sb))).setCell ⟨W.heap.size, 131 + 4 * k, none⟩ (.int .u8 (uv pb))) W.heap.size W.heap.size 4096 (stN vs (k + 1)) by
                have h9 : Own4 (W1.setCell ⟨W.heap.size, 130 + 4 * k, none⟩ (.int .u8 (uv sb))) W.heap.size W.heap.size 4096 (Lb.set (130 + 4 * k) sb) := by rw [Own4, ← by8_setL]; exact (World.ownsRow.stored O8.out (130 + 4 * k) (.int .u8 (uv sb))).1
                rw [HST.out, Own4, ← by8_setL]; exact (World.ownsRow.stored h9 (131 + 4 * k) (.int .u8 (uv pb))).1)
              have C9 := Lib.hid (show Chg (fun b => b = W.heap.size) W1 ((W1.setCell ⟨W.heap.size, 130 + 4 * k, none⟩ (.int .u8 (uv sb))).setCell ⟨W.heap.size, 131 + 4 * k, none⟩ (.int .u8 (uv pb))) from (Chg.setCell (B := fun b => b = W.heap.size) (p := ⟨W.heap.size, 130 + 4 * k, none⟩) _ rfl _).trans (Chg.setCell (B := fun b => b = W.heap.size) (p := ⟨W.heap.size, 131 + 4 * k, none⟩) _ rfl _))
              have BX9 := Lib.hid (Chg.blk (k := w.heap.size) C9.out (blk_below BX7.out C1.out) (fun h => by have := HS.out; omega))
              have B9 := Lib.hid (C9.out.fresh (gr_tr B7.out C1.out) (fun k hk => by omega))
              clear m1 m2 c1 c2 f1 f2 hy1 hy2 hs0 hs2 hs3 ha2 ha3 hb2 hb3 ht2 ht3
              go_wp2
              go_roundw
              case rel => exact ⟨k + 1, by omega, by go_num, OKN, O9.out, BX9, B9.out⟩
              case measure => simp [intOf]; omega
            · cases zm
              · cases zs
                · cases zp
                  · have OKN := Lib.hid (show ∀ j, j < k + 1 → badBlk vs j = false from fun j hj => by
                      by_cases e : j = k
                      · subst e; exact HBAD.out
                      · exact OKK.out j (by omega))
                    go_upto_region 28 with (go_at_call 40; go_loud (rw [show (128 + 4 * (k : Int)) = ((128 + 4 * k : Nat) : Int) by omega]; refine (rput_any W.heap.size 4096 W.heap.size La (128 + 4 * k) 2 (mb.setWidth 64) _ O6.out (by omega) (by omega)).mono ?_; rintro r w7 ⟨rfl, ho, hc⟩; have O7 := Lib.hid (show Own4 w7 W.heap.size W.heap.size 4096 Lb by rw [← HLB.out]; exact ho); have C7 := Lib.hid hc; clear ho hc))
                    have HH7 := Lib.hid (Chg.blk (k := wa.heap.size) C7.out HH.out (fun h => by have := NE6.out; omega))
                    have BX7 := Lib.hid (Chg.blk (k := w.heap.size) C7.out BX6.out (fun h => by have := HS.out; omega))
                    have B7 := Lib.hid (C7.out.fresh D6.out (fun k hk => by omega))
                    have hne : ¬ wa.heap.size = W.heap.size := by have := NE6.out; omega
                    have m1 : ∀ z : KeepT (fun b => b = W.heap.size) w7, z.val.cell? ⟨wa.heap.size, 1, none⟩ = some (.int .u8 (uv sb)) := fun z => z.cell ((cell_of_row _ _ 1 _ _ _ HH7.out).trans rfl) hne
                    have m2 : ∀ z : KeepT (fun b => b = W.heap.size) w7, z.val.cell? ⟨wa.heap.size, 2, none⟩ = some (.int .u8 (uv pb)) := fun z => z.cell ((cell_of_row _ _ 2 _ _ _ HH7.out).trans rfl) hne
                    refine wp_region_planW (fun b => b = W.heap.size) [(true, 0), (true, 1), (true, 2), (true, 3), (true, 4), (true, 5), (true, 6), (true, 7), (true, 8), (true, 9), (true, 10), (true, 11), (true, 12), (false, 13), (true, 14), (false, 15)] (by kernel_rfl) (by kernel_rfl) (by intro c a d v w h; cases d <;> exact h) ?_
                    have hs0 : IntKind.i64.wrap (4 * (k : Int)) = 4 * (k : Int) := IntWalk.i64_in _ (by omega)
                    have hs2 : IntKind.i64.wrap (130 + 4 * (k : Int)) = 130 + 4 * (k : Int) := IntWalk.i64_in _ (by omega)
                    have hs3 : IntKind.i64.wrap (131 + 4 * (k : Int)) = 131 + 4 * (k : Int) := IntWalk.i64_in _ (by omega)
                    have ha2 : (0 : Int) ≤ 130 + 4 * (k : Int) := by omega
                    have ha3 : (0 : Int) ≤ 131 + 4 * (k : Int) := by omega
                    have hb2 : (130 + 4 * (k : Int)) < 4096 := by omega
                    have hb3 : (131 + 4 * (k : Int)) < 4096 := by omega
                    have ht2 : (130 + 4 * (k : Int)).toNat = 130 + 4 * k := by omega
                    have ht3 : (131 + 4 * (k : Int)).toNat = 131 + 4 * k := by omega
                    intro W1 K1 C1
                    repeat (refine wpS_firm rfl (fun K hK => ?_); simp only [Keep]; go_simp; refine hK _ ?_; clear hK K)
                    have O8 := Lib.hid (O7.out.below C1.out)
                    obtain ⟨y1, hy1⟩ : ∃ y, Lb[130 + 4 * k]? = some y := ⟨_, List.getElem?_eq_getElem (by have := HNB.out; omega)⟩
                    obtain ⟨y2, hy2⟩ : ∃ y, Lb[131 + 4 * k]? = some y := ⟨_, List.getElem?_eq_getElem (by have := HNB.out; omega)⟩
                    have c1 := (World.ownsRow.cellAt O8.out (130 + 4 * k) (by omega)).trans (by rw [by8_get, hy1]; rfl : _ = some (Value.int .u8 (uv y1)))
                    have c2 := (World.ownsRow.cellAt O8.out (131 + 4 * k) (by omega)).trans (by rw [by8_get, hy2]; rfl : _ = some (Value.int .u8 (uv y2)))
                    have f1 := World.ownsRow.frozenAt O8.out (130 + 4 * k)
                    have f2 := World.ownsRow.frozenAt O8.out (131 + 4 * k)
                    refine wpS_chain rfl ?_
                    go_wp2
                    refine ⟨K1.out.put rfl _, ?_⟩
                    repeat (refine wpS_firm rfl (fun K hK => ?_); simp only [Keep]; go_simp; refine hK _ ?_; clear hK K)
                    refine wpS_chain rfl ?_
                    go_wp2
                    first
                      | (refine ⟨(K1.out.put rfl _).put rfl _, ?_⟩; unfold wpS)
                      | skip
                    have O9 := Lib.hid (show Own4 ((W1.setCell ⟨W.heap.size, 130 + 4 * k, none⟩ (.int .u8 (uv sb))).setCell ⟨W.heap.size, 131 + 4 * k, none⟩ (.int .u8 (uv pb))) W.heap.size W.heap.size 4096 (stN vs (k + 1)) by
                      have h9 : Own4 (W1.setCell ⟨W.heap.size, 130 + 4 * k, none⟩ (.int .u8 (uv sb))) W.heap.size W.heap.size 4096 (Lb.set (130 + 4 * k) sb) := by rw [Own4, ← by8_setL]; exact (World.ownsRow.stored O8.out (130 + 4 * k) (.int .u8 (uv sb))).1
                      rw [HST.out, Own4, ← by8_setL]; exact (World.ownsRow.stored h9 (131 + 4 * k) (.int .u8 (uv pb))).1)
                    have C9 := Lib.hid (show Chg (fun b => b = W.heap.size) W1 ((W1.setCell ⟨W.heap.size, 130 + 4 * k, none⟩ (.int .u8 (uv sb))).setCell ⟨W.heap.size, 131 + 4 * k, none⟩ (.int .u8 (uv pb))) from (Chg.setCell (B := fun b => b = W.heap.size) (p := ⟨W.heap.size, 130 + 4 * k, none⟩) _ rfl _).trans (Chg.setCell (B := fun b => b = W.heap.size) (p := ⟨W.heap.size, 131 + 4 * k, none⟩) _ rfl _))
                    have BX9 := Lib.hid (Chg.blk (k := w.heap.size) C9.out (blk_below BX7.out C1.out) (fun h => by have := HS.out; omega))
                    have B9 := Lib.hid (C9.out.fresh (gr_tr B7.out C1.out) (fun k hk => by omega))
                    clear m1 m2 c1 c2 f1 f2 hy1 hy2 hs0 hs2 hs3 ha2 ha3 hb2 hb3 ht2 ht3
                    go_wp2
                    go_roundw
                    case rel => exact ⟨k + 1, by omega, by go_num, OKN, O9.out, BX9, B9.out⟩
                    case measure => simp [intOf]; omega
                  · obtain ⟨e1, e2⟩ := ISB.out HBAD.out
                    go_wp2
                    go_ret2
                    exact ⟨_, by first | rfl | (rw [e1]; rfl), by first | exact BytesV.nil _ | (rw [e2]; exact BytesV.nil _), gr_tr D0.out D6.out⟩
                · obtain ⟨e1, e2⟩ := ISB.out HBAD.out
                  go_wp2
                  go_ret2
                  exact ⟨_, by first | rfl | (rw [e1]; rfl), by first | exact BytesV.nil _ | (rw [e2]; exact BytesV.nil _), gr_tr D0.out D6.out⟩
              · obtain ⟨e1, e2⟩ := ISB.out HBAD.out
                go_wp2
                go_ret2
                exact ⟨_, by first | rfl | (rw [e1]; rfl), by first | exact BytesV.nil _ | (rw [e2]; exact BytesV.nil _), gr_tr D0.out D6.out⟩
          · obtain ⟨e1, e2⟩ := ISB.out HBAD.out
            go_wp2
            go_ret2
            exact ⟨_, by first | rfl | (rw [e1]; rfl), by first | exact BytesV.nil _ | (rw [e2]; exact BytesV.nil _), gr_tr D0.out D6.out⟩
        · obtain rfl : k = 16 := by omega
          have ho : okNs vs = true := okNs_yes HBH2.out OKK.out
          have hE0 : E = 0 := by rw [← HE.out]; unfold nsE; rw [ho]; rfl
          have hB0 : B = stN vs 16 := by rw [← HB.out, stN_end HV.out.1]; unfold nsR; rw [ho]; rfl
          subst hE0
          go_wp2
          go_ret2
          exact ⟨_, rfl, by rw [hB0]; exact OW.out.bytes, gr_tr D0.out BW.out⟩
    · obtain ⟨e1, e2⟩ := BAD.out HB2.out
      go_enter Try.func23, Try.ntmps23
      go_upto_region 1 with (fail)
      rw [← HW.out]
      go_wp2
      go_ret2
      exact ⟨_, by first | rfl | (rw [e1]; rfl), by first | exact BytesV.nil _ | (rw [e2]; exact BytesV.nil _), D.out⟩
  · obtain ⟨e1, e2⟩ := BAD.out HB2.out
    go_enter Try.func23, Try.ntmps23
    go_upto_region 1 with (fail)
    rw [← HW.out]
    go_wp2
    go_ret2
    exact ⟨_, by first | rfl | (rw [e1]; rfl), by first | exact BytesV.nil _ | (rw [e2]; exact BytesV.nil _), D.out⟩
end Go.Proofs.Ytccllneifkeimaa
