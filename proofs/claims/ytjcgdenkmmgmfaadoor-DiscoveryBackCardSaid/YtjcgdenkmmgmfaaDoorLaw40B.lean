/- Discovery: the walk of DiscoveryBack. Printed by genlaw40b.py. -/
import Derived.Test.YtjcgdenkmmgmfaaDoorLaw40A
namespace Go.Proofs.YtjcgdenkmmgmfaaDoor
open Go.RowKit Go.Shelf Dsc
set_option linter.unusedVariables false
set_option linter.unusedSimpArgs false
attribute [local go_sem] Oper.semAt_some
theorem ok_fit {r : Rec} (h : r.ok = true) : r.Fit := by
  obtain ⟨_, h1, h2, h3⟩ := ok_parts h
  have := txOk_len h1; have := txOk_len h2; have := nmOk_len h3
  exact ⟨by omega, by omega, by omega⟩
set_option maxHeartbeats 6400000 in
set_option maxRecDepth 20000 in
theorem lawBackV (g : BitVec 64) (v : Value) (rs : List Rec) (vb : Value) (b : List (BitVec 8)) (w : World) (hv : SliceV w Dsc.Rec.cells v rs) (hfit : ∀ r ∈ rs, r.Fit) (hvb : BytesV w vb b) :
    Calls Tryd.prog 5 #[.agg #[.int .u64 (uv g), v], vb] w fun e w' => e = .returned (.bool true) ∧ Below w.heap.size w w' := by
  have HFIT := Lib.hid hfit
  have SV := Lib.hid hv
  have BV := Lib.hid hvb
  obtain ⟨a, c, hva, -⟩ := id hv
  subst hva
  obtain ⟨ab, cb, hvb1, -⟩ := id hvb
  subst hvb1
  clear hfit hv hvb
  obtain ⟨n, hn⟩ : ∃ n, rs.length = n := ⟨_, rfl⟩
  have HN := Lib.hid hn
  obtain ⟨M, hM⟩ : ∃ M, b.length = M := ⟨_, rfl⟩
  rw [hn] at SV ⊢
  rw [hM] at BV ⊢
  clear hn hM
  obtain ⟨W, hW⟩ : ∃ W, W = w.alloc (.cells #[.int .u64 (uv g), .slice a n c] 25) := ⟨_, rfl⟩
  have DX := Lib.hid (show Below w.heap.size w W by rw [hW]; exact gr_alloc w _)
  have X := Lib.hid (show W.heap[w.heap.size]? = some (.cells #[.int .u64 (uv g), .slice a n c] 25 (0, 0)) by rw [hW]; exact heap_alloc_new w _)
  have SW := Lib.hid (SV.out.below DX.out)
  have BW := Lib.hid (BV.out.below DX.out)
  have x1 : W.cell? ⟨w.heap.size, 1, none⟩ = some (.slice a n c) := (cell_of_row _ _ 1 _ _ _ X.out).trans rfl
  have HW := Lib.hid hW
  clear hW SV BV
  go_enter Tryd.func5, Tryd.ntmps5
  go_upto_region 1 with fail
  rw [← HW.out]
  clear HW
  by_cases g1 : (8 : Int) < (n : Int)
  · go_wp2_with (go_at_call 8; go_loud (refine (known_any _).mono ?_; rintro e w9 ⟨rfl, hw⟩; have D9 := Lib.hid (gr_tr DX.out hw); clear hw))
    go_ret
    exact ⟨rfl, D9.out⟩
  by_cases g2 : (5200 : Int) < (M : Int)
  · go_wp2_with (go_at_call 8; go_loud (refine (known_any _).mono ?_; rintro e w9 ⟨rfl, hw⟩; have D9 := Lib.hid (gr_tr DX.out hw); clear hw))
    go_ret
    exact ⟨rfl, D9.out⟩
  have HN3 := Lib.hid (show n ≤ 8 by omega)
  have HM3 := Lib.hid (show M ≤ 5200 by omega)
  go_upto_region 3 with fail
  clear g1 g2 x1
  go_wp2
  go_loopw [5] (fun i wr => ∃ k : Nat, k ≤ n ∧ i = .int .i64 k ∧ Below W.heap.size W wr) (fun i _ => n - (intOf i).toNat)
  case atStart => exact ⟨0, by omega, rfl, Below.refl _ _⟩
  case round =>
    obtain ⟨k, hk, rfl, hb⟩ := hrel
    have CK := Lib.hid hb
    clear hb
    have XK := Lib.hid (blk_below X.out CK.out)
    have x1 : wr.cell? ⟨w.heap.size, 1, none⟩ = some (.slice a n c) := (cell_of_row _ _ 1 _ _ _ XK.out).trans rfl
    by_cases hlt : k < n
    · obtain ⟨r, hr⟩ : ∃ r, rs[k]? = some r := ⟨_, List.getElem?_eq_getElem (by rw [HN.out]; exact hlt)⟩
      obtain ⟨gq, o, cq, he, hrng⟩ := SliceV.rng rec_len SW.out k r hr (by decide)
      injection he with he1 he2 he3
      subst he1; subst he3
      have RNG := Lib.hid (rng_below hrng CK.out)
      have LNG := Lib.hid (fun w => long_at r w)
      have CLL := Lib.hid (rec_len r)
      obtain ⟨cl, hcl⟩ : ∃ cl, r.cells = cl := ⟨_, rfl⟩
      rw [hcl] at RNG CLL LNG
      have HLT := Lib.hid hlt
      have hn3 := HN3.out
      clear hr hrng hcl he2
      go_wp2_with (first
        | (refine wpList_load_mid rfl 30 (.tmp 34) rfl gq (o + k * 10) rfl cl _ RNG.out Tryd.underlying30 rfl (by rw [CLL.out]; kernel_rfl) ?_)
        | (go_at_call 9; go_loud (refine (LNG.out _).mono ?_; rintro e w4 ⟨z, rfl, hw⟩; have C4 := Lib.hid (gr_tr CK.out hw); clear hw))
        | (go_at_call 8; go_loud (refine (known_any _).mono ?_; rintro e w9 ⟨rfl, hw⟩; have D9 := Lib.hid (gr_tr (gr_tr DX.out C4.out) hw); clear hw)))
      · go_ret
        exact ⟨rfl, D9.out⟩
      · go_roundw
        case rel => exact ⟨k + 1, by have := HLT.out; omega, by go_num, C4.out⟩
        case measure =>
          have := HLT.out
          simp [intOf]; omega
    · obtain rfl : k = n := by omega
      obtain ⟨E, hE⟩ : ∃ E, logE rs = E := ⟨_, rfl⟩
      obtain ⟨B, hB⟩ : ∃ B, logR g rs = B := ⟨_, rfl⟩
      have SN := Lib.hid (show SliceV wr Dsc.Rec.cells (.slice a k c) rs from SliceV.below SW.out CK.out)
      have ENC := Lib.hid (fun w (h : SliceV w Dsc.Rec.cells (.slice a k c) rs) => Encode_at g _ rs E B w h HFIT.out hE hB)
      by_cases he : E = 0
      · subst he
        have hok := (logE_ok hE).2
        have hB2 : logB g rs = B := by rw [← hB]; unfold logR; rw [if_pos hE]
        obtain ⟨d1, d2, d3⟩ := dec_log (g := g) hE
        rw [hB2] at d1 d2 d3
        obtain ⟨NB, hNB⟩ : ∃ x, 1024 * (1 + k) = x := ⟨_, rfl⟩
        have BL := Lib.hid (show B.length = NB by rw [← hB2, logB_len hok, HN.out, hNB])
        have DEC := Lib.hid (fun v w h => Decode_at v B 0 g rs w h d1 d2 d3)
        have hnb : ((NB : Int) != 1024 * (1 + (k : Int))) = false := by simp; omega
        have HNB := Lib.hid hnb
        have hk8 := HN3.out
        have SAM := Lib.hid (fun v1 v2 w h1 h2 => Same_eq v1 v2 rs w h1 h2)
        clear hE hB hok hB2 d1 d2 d3 hNB
        go_upto_region 11 with (first
          | (refine wpList_load_row rfl 25 (.tmp 2) rfl w.heap.size rfl 25 #[.int .u64 (uv g), .slice a k c] (0, 0) _ XK.out Tryd.underlying25 rfl (by kernel_rfl) ?_)
          | (go_at_call 12; go_loud (refine (ENC.out _ SN.out).mono ?_; rintro e w5 ⟨u5, rfl, ho, hb⟩; have U5 := Lib.hid (BytesV.of_own ho); rw [BL.out] at ho; obtain ⟨a5, c5, rfl⟩ := own_shape ho; have X5 := Lib.hid (blk_below XK.out hb); have S5 := Lib.hid (SliceV.below SN.out hb); have C5 := Lib.hid (gr_tr CK.out hb); clear ho hb))
          | (go_at_call 14; go_loud (refine (DEC.out _ _ U5.out).mono ?_; rintro e w6 ⟨lv6, rfl, ho, hb⟩; have L6 := Lib.hid (SliceV.of_own (f := Dsc.Rec.cells) (k := 10) (by decide) (fun _ => rfl) (xs := rs) ho); obtain ⟨a6, c6, rfl⟩ := own_shape ho; have X6 := Lib.hid (blk_below X5.out hb); have S6 := Lib.hid (SliceV.below S5.out hb); have C6 := Lib.hid (gr_tr C5.out hb); clear ho hb))
          | (refine wpList_store_new rfl 25 (.tmp 8) (.tmp 48) rfl #[.int .u64 (uv g), .slice a6 rs.length c6] 25 _ rfl rfl (by kernel_rfl) rfl (by simp [Value.oneCell']) ?_; intro w7 h7 hb; have L7 := Lib.hid (SliceV.below L6.out hb); have X7 := Lib.hid (blk_below X6.out hb); have S7 := Lib.hid (SliceV.below S6.out hb); have C7 := Lib.hid (gr_tr C6.out hb); have y0 : w7.cell? ⟨w6.heap.size, 0, none⟩ = some (.int .u64 (uv g)) := (cell_of_row _ _ 0 _ _ _ h7).trans rfl; have y1 : w7.cell? ⟨w6.heap.size, 1, none⟩ = some (.slice a6 rs.length c6) := (cell_of_row _ _ 1 _ _ _ h7).trans rfl; have z0 : w7.cell? ⟨w.heap.size, 0, none⟩ = some (.int .u64 (uv g)) := (cell_of_row _ _ 0 _ _ _ X7.out).trans rfl; have z1 : w7.cell? ⟨w.heap.size, 1, none⟩ = some (.slice a k c) := (cell_of_row _ _ 1 _ _ _ X7.out).trans rfl; clear h7 hb))
        have hgg : (uv g != uv g) = false := by simp
        have hw2 : IntKind.i64.wrap (1 + (k : Int)) = 1 + (k : Int) := by rw [IntKind.wrap_i64]; omega
        have hw3 : IntKind.i64.wrap (1024 * (1 + (k : Int))) = 1024 * (1 + (k : Int)) := by rw [IntKind.wrap_i64]; omega
        obtain ⟨q, hq⟩ : ∃ q, uv g = q := ⟨_, rfl⟩
        rw [hq] at hgg y0 z0 ⊢
        go_upto_region 13 with (go_at_call 16; go_loud (refine (SAM.out _ _ _ L7.out S7.out).mono ?_; rintro e wz ⟨rfl, hb⟩; have z2 : wz.cell? ⟨w.heap.size, 1, none⟩ = some (.slice a k c) := (cell_of_row _ _ 1 _ _ _ (blk_below X7.out hb)).trans rfl; have CZ := Lib.hid (gr_tr C7.out hb); clear hb y0 y1 z0 z1))
        clear hgg hw2 hw3 hnb hq
        clear z2
        clear x1
        have BZ := Lib.hid (BW.out.below CZ.out)
        obtain ⟨E2, hE2⟩ : ∃ x, decE b = x := ⟨_, rfl⟩
        obtain ⟨g2, hg2⟩ : ∃ x, decG b = x := ⟨_, rfl⟩
        obtain ⟨L2, hL2⟩ : ∃ x, decL b = x := ⟨_, rfl⟩
        have DEC2 := Lib.hid (fun v w h => Decode_at v b E2 g2 L2 w h hE2 hg2 hL2)
        by_cases h2 : E2 = 0
        · subst h2
          obtain ⟨l1, l2⟩ := log_dec hE2
          rw [hL2] at l1 l2
          rw [hg2] at l2
          have hR : logR g2 L2 = b := by unfold logR; rw [if_pos l1]; exact l2
          have ENC2 := Lib.hid (fun v w h => Encode_at g2 v L2 0 b w h (fun r hr => ok_fit ((logE_ok l1).2 r hr)) l1 hR)
          obtain ⟨st, hst⟩ : ∃ st, strOf b = st := ⟨_, rfl⟩
          have HST := Lib.hid hst
          clear hE2 hg2 hL2 l1 l2 hR hst
          go_wp2_with (first
            | (go_at_call 14; go_loud (refine (DEC2.out _ _ BZ.out).mono ?_; rintro e w10 ⟨lv, rfl, ho, hb⟩; have M10 := Lib.hid (SliceV.of_own (f := Dsc.Rec.cells) (k := 10) (by decide) (fun _ => rfl) (xs := L2) ho); obtain ⟨am, cm, rfl⟩ := own_shape ho; have B10 := Lib.hid (BZ.out.below hb); have C10 := Lib.hid (gr_tr CZ.out hb); clear ho hb))
            | (refine wpList_store_new rfl 25 (.tmp 10) (.tmp 80) rfl #[.int .u64 (uv g2), .slice am L2.length cm] 25 _ rfl rfl (by kernel_rfl) rfl (by simp [Value.oneCell']) ?_; intro w11 h11 hb; have T11 := Lib.hid h11; have M11 := Lib.hid (SliceV.below M10.out hb); have B11 := Lib.hid (B10.out.below hb); have C11 := Lib.hid (gr_tr C10.out hb); clear h11 hb)
            | (refine wpList_load_row rfl 25 (.tmp 10) rfl w10.heap.size rfl 25 #[.int .u64 (uv g2), .slice am L2.length cm] (0, 0) _ T11.out Tryd.underlying25 rfl (by kernel_rfl) ?_)
            | (go_at_call 12; go_loud (refine (ENC2.out _ _ M11.out).mono ?_; rintro e w12 ⟨u12, rfl, ho, hb⟩; have hs1 := run_string (BytesV.of_own ho); have hs2 := run_string (B11.out.below hb); rw [HST.out] at hs1 hs2; have C12 := Lib.hid (gr_tr C11.out hb); clear ho hb))
            | (go_at_call 8; go_loud (refine (known_any _).mono ?_; rintro e w9 ⟨rfl, hw⟩; have D9 := Lib.hid (gr_tr (gr_tr DX.out C12.out) hw); clear hw)))
          go_ret
          exact ⟨rfl, D9.out⟩
        · have hd2 : (E2 == 0) = false := by simpa using h2
          clear hE2 hg2 hL2
          go_wp2_with (first
            | (go_at_call 14; go_loud (refine (DEC2.out _ _ BZ.out).mono ?_; rintro e w10 ⟨lv, rfl, ho, hb⟩; obtain ⟨am, cm, rfl⟩ := own_shape ho; have C10 := Lib.hid (gr_tr CZ.out hb); clear ho hb))
            | (refine wpList_store_new rfl 25 (.tmp 10) (.tmp 80) rfl #[.int .u64 (uv g2), .slice am L2.length cm] 25 _ rfl rfl (by kernel_rfl) rfl (by simp [Value.oneCell']) ?_; intro w11 h11 hb; have C11 := Lib.hid (gr_tr C10.out hb); clear h11 hb)
            | (go_at_call 8; go_loud (refine (known_any _).mono ?_; rintro e w9 ⟨rfl, hw⟩; have D9 := Lib.hid (gr_tr (gr_tr DX.out C11.out) hw); clear hw)))
          go_ret
          exact ⟨rfl, D9.out⟩
      · have hd0 : (E == 0) = false := by simpa using he
        clear hE hB
        go_upto_region 13 with (first
          | (refine wpList_load_row rfl 25 (.tmp 2) rfl w.heap.size rfl 25 #[.int .u64 (uv g), .slice a k c] (0, 0) _ XK.out Tryd.underlying25 rfl (by kernel_rfl) ?_)
          | (go_at_call 12; go_loud (refine (ENC.out _ SN.out).mono ?_; rintro e wz ⟨u5, rfl, ho, hb⟩; have CZ := Lib.hid (gr_tr CK.out hb); clear ho hb)))
        clear x1
        have BZ := Lib.hid (BW.out.below CZ.out)
        obtain ⟨E2, hE2⟩ : ∃ x, decE b = x := ⟨_, rfl⟩
        obtain ⟨g2, hg2⟩ : ∃ x, decG b = x := ⟨_, rfl⟩
        obtain ⟨L2, hL2⟩ : ∃ x, decL b = x := ⟨_, rfl⟩
        have DEC2 := Lib.hid (fun v w h => Decode_at v b E2 g2 L2 w h hE2 hg2 hL2)
        by_cases h2 : E2 = 0
        · subst h2
          obtain ⟨l1, l2⟩ := log_dec hE2
          rw [hL2] at l1 l2
          rw [hg2] at l2
          have hR : logR g2 L2 = b := by unfold logR; rw [if_pos l1]; exact l2
          have ENC2 := Lib.hid (fun v w h => Encode_at g2 v L2 0 b w h (fun r hr => ok_fit ((logE_ok l1).2 r hr)) l1 hR)
          obtain ⟨st, hst⟩ : ∃ st, strOf b = st := ⟨_, rfl⟩
          have HST := Lib.hid hst
          clear hE2 hg2 hL2 l1 l2 hR hst
          go_wp2_with (first
            | (go_at_call 14; go_loud (refine (DEC2.out _ _ BZ.out).mono ?_; rintro e w10 ⟨lv, rfl, ho, hb⟩; have M10 := Lib.hid (SliceV.of_own (f := Dsc.Rec.cells) (k := 10) (by decide) (fun _ => rfl) (xs := L2) ho); obtain ⟨am, cm, rfl⟩ := own_shape ho; have B10 := Lib.hid (BZ.out.below hb); have C10 := Lib.hid (gr_tr CZ.out hb); clear ho hb))
            | (refine wpList_store_new rfl 25 (.tmp 10) (.tmp 80) rfl #[.int .u64 (uv g2), .slice am L2.length cm] 25 _ rfl rfl (by kernel_rfl) rfl (by simp [Value.oneCell']) ?_; intro w11 h11 hb; have T11 := Lib.hid h11; have M11 := Lib.hid (SliceV.below M10.out hb); have B11 := Lib.hid (B10.out.below hb); have C11 := Lib.hid (gr_tr C10.out hb); clear h11 hb)
            | (refine wpList_load_row rfl 25 (.tmp 10) rfl w10.heap.size rfl 25 #[.int .u64 (uv g2), .slice am L2.length cm] (0, 0) _ T11.out Tryd.underlying25 rfl (by kernel_rfl) ?_)
            | (go_at_call 12; go_loud (refine (ENC2.out _ _ M11.out).mono ?_; rintro e w12 ⟨u12, rfl, ho, hb⟩; have hs1 := run_string (BytesV.of_own ho); have hs2 := run_string (B11.out.below hb); rw [HST.out] at hs1 hs2; have C12 := Lib.hid (gr_tr C11.out hb); clear ho hb))
            | (go_at_call 8; go_loud (refine (known_any _).mono ?_; rintro e w9 ⟨rfl, hw⟩; have D9 := Lib.hid (gr_tr (gr_tr DX.out C12.out) hw); clear hw)))
          go_ret
          exact ⟨rfl, D9.out⟩
        · have hd2 : (E2 == 0) = false := by simpa using h2
          clear hE2 hg2 hL2
          go_wp2_with (first
            | (go_at_call 14; go_loud (refine (DEC2.out _ _ BZ.out).mono ?_; rintro e w10 ⟨lv, rfl, ho, hb⟩; obtain ⟨am, cm, rfl⟩ := own_shape ho; have C10 := Lib.hid (gr_tr CZ.out hb); clear ho hb))
            | (refine wpList_store_new rfl 25 (.tmp 10) (.tmp 80) rfl #[.int .u64 (uv g2), .slice am L2.length cm] 25 _ rfl rfl (by kernel_rfl) rfl (by simp [Value.oneCell']) ?_; intro w11 h11 hb; have C11 := Lib.hid (gr_tr C10.out hb); clear h11 hb)
            | (go_at_call 8; go_loud (refine (known_any _).mono ?_; rintro e w9 ⟨rfl, hw⟩; have D9 := Lib.hid (gr_tr (gr_tr DX.out C11.out) hw); clear hw)))
          go_ret
          exact ⟨rfl, D9.out⟩
theorem lawBack (x : DLog) (vb : Value) (b : List (BitVec 8)) (w : World) (h : DLog.R w x) (hb : BytesV w vb b) :
    Calls Tryd.prog 5 #[.agg x.cells.toArray, vb] w fun e w' => e = .returned (.bool true) ∧ Below w.heap.size w w' := by
  obtain ⟨-, rs, h1, h2⟩ := h
  exact lawBackV x.g x.rs rs vb b w h1 (fun r hr => (h2 r hr).fit) hb
end Go.Proofs.YtjcgdenkmmgmfaaDoor
