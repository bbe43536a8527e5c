/- FirmwareKeeps: the walk (printed by gen26.py). -/
import Derived.Test.YtabfmhlhdebcpaaGreatDoorFwM5
namespace Go.Proofs.YtabfmhlhdebcpaaGreatDoor
open Go.RowKit Go.Shelf Fw
set_option linter.unusedVariables false
set_option linter.unusedSimpArgs false
attribute [local go_sem] Oper.semAt_some
set_option maxHeartbeats 6400000 in
set_option maxRecDepth 20000 in
theorem lawKeeps_no (c : Cfg) (v : Value) (xs : List Cl) (w : World) (hc : c.R) (hok : cfgOk c = false) :
    Calls Tryz.prog 6 #[.agg c.cells.toArray, v] w fun e w' => e = .returned (.bool true) ∧ Below w.heap.size w w' := by
  have NEW := Lib.hid (fun W => New_no c W hc hok)
  obtain ⟨W, hW⟩ : ∃ W, W = w.alloc (.cells c.cells.toArray 23) := ⟨_, rfl⟩
  have D0 := Lib.hid (show Below w.heap.size w W by rw [hW]; exact gr_alloc w _)
  have X0 := Lib.hid (show W.heap[w.heap.size]? = some (.cells c.cells.toArray 23 (0, 0)) by rw [hW]; exact heap_alloc_new w _)
  have SZ := Lib.hid (show c.cells.toArray.size = 4 from rfl)
  obtain ⟨cc, hcc⟩ : ∃ z, c.cells.toArray = z := ⟨_, rfl⟩
  rw [hcc] at NEW X0 SZ hW ⊢
  have HW := Lib.hid hW
  clear hW hcc hc hok
  go_enter Tryz.func6, Tryz.ntmps6
  go_upto_region 1 with fail
  rw [← HW.out]
  go_upto_region 2 with (first
    | (refine wpList_load_row rfl 23 (.tmp 2) rfl w.heap.size rfl 23 cc (0, 0) _ X0.out Tryz.underlying23 rfl (by rw [SZ.out]; kernel_rfl) ?_)
    | (go_at_call 10; go_loud (refine (NEW.out _).mono ?_; rintro e w1 ⟨rfl, hb⟩; have D1 := Lib.hid (gr_tr D0.out hb); have X1 := Lib.hid (blk_below X0.out hb); clear hb)))
  go_wp2_with (go_at_call 12; go_loud ((with_reducible refine (known_any _).mono ?_); rintro e wk ⟨rfl, hbk⟩; have DK := Lib.hid hbk; clear hbk))
  go_ret
  exact ⟨rfl, gr_tr D1.out DK.out⟩
theorem rev_get {x : St} (hl : x.s.revs.length = 7) (j : Nat) (hj : j < 7) : x.s.revs[j]? = some (revAt x ((j : Int) + 1)) := by
  unfold revAt
  rw [show ((j : Int) + 1 - 1).toNat = j by omega, List.getD_eq_getElem?_getD, List.getElem?_eq_getElem (by omega)]; rfl
theorem stt_rev (x : St) (j : Nat) (r : Bs) (h : x.s.revs[j]? = some r) : x.s.cells.toArray[2 + j]? = some (.string (strOf r)) := by
  rw [List.getElem?_toArray]
  show ([Value.int .i64 x.s.act, .int .i64 x.s.nxt] ++ revC x.s.revs)[2 + j]? = _
  rw [List.getElem?_append_right (by simp)]
  unfold revC
  simp [h]
set_option maxHeartbeats 6400000 in
set_option maxRecDepth 20000 in
theorem lawKeeps (c : Cfg) (v : Value) (xs : List Cl) (w : World) (hc : c.R) (hv : SliceV w Cl.cells v xs) (hR : ∀ x ∈ xs, Cl.R w x) :
    Calls Tryz.prog 6 #[.agg c.cells.toArray, v] w fun e w' => e = .returned (.bool true) ∧ Below w.heap.size w w' := by
  cases hok : cfgOk c
  · exact lawKeeps_no c v xs w hc hok
  have NEW := Lib.hid (fun W => New_ok c W hc hok)
  have RNW := Lib.hid (fun W => rNew_at c W)
  have OKN := Lib.hid (Ok.new hok)
  obtain ⟨W, hW⟩ : ∃ W, W = w.alloc (.cells c.cells.toArray 23) := ⟨_, rfl⟩
  have D0 := Lib.hid (show Below w.heap.size w W by rw [hW]; exact gr_alloc w _)
  have X0 := Lib.hid (show W.heap[w.heap.size]? = some (.cells c.cells.toArray 23 (0, 0)) by rw [hW]; exact heap_alloc_new w _)
  have SZ := Lib.hid (show c.cells.toArray.size = 4 from rfl)
  obtain ⟨cc, hcc⟩ : ∃ z, c.cells.toArray = z := ⟨_, rfl⟩
  rw [hcc] at NEW RNW X0 SZ hW ⊢
  have HW := Lib.hid hW
  have HCC := Lib.hid hcc
  have FEW := Lib.hid (fun W (h : Below w.heap.size w W) => few_le v xs W (SliceV.below hv h) (fun x hx => Cl.R.below (hR x hx) h))
  have SV := Lib.hid hv; have HR := Lib.hid hR
  obtain ⟨a, cp, rfl, -, hm1, hm2, -⟩ := id hv
  obtain ⟨n, hn⟩ : ∃ n, xs.length = n := ⟨_, rfl⟩
  have hmax : n ≤ 9223372036854775807 := by omega
  have HN := Lib.hid hn
  rw [hn] at FEW SV ⊢
  clear hW hcc hc hok hv hR hn hm1 hm2
  go_enter Tryz.func6, Tryz.ntmps6
  go_upto_region 1 with fail
  rw [← HW.out]
  go_upto_region 2 with (first
    | (refine wpList_load_row rfl 23 (.tmp 2) rfl w.heap.size rfl 23 cc (0, 0) _ X0.out Tryz.underlying23 rfl (by rw [SZ.out]; kernel_rfl) ?_)
    | (go_at_call 10; go_loud (refine (NEW.out _).mono ?_; rintro e w1 ⟨p, rfl, hs, hp, hb⟩; have S1 := Lib.hid hs; have PL := Lib.hid (Nat.le_trans D0.out.size hp); have D1 := Lib.hid (gr_tr D0.out hb); have X1 := Lib.hid (blk_below X0.out hb); clear hs hp hb)))
  have D2 := D1; have X2 := X1; have S2 := S1
  go_upto_region 4 with (first
    | (go_at_call 13; go_loud (refine (FEW.out _ D2.out).mono ?_; rintro e w3 ⟨rfl, z, rfl, h8⟩; have H8 := Lib.hid h8; clear h8; cases z))
    | (go_at_call 12; go_loud ((with_reducible refine (known_any _).mono ?_); rintro e wk ⟨rfl, hbk⟩; have DK := Lib.hid hbk; clear hbk)))
  · go_ret
    exact ⟨rfl, gr_tr D2.out DK.out⟩
  have BYS := Lib.hid (show Bys w xs from fun x hx => ⟨HR.out x hx, Cl.Small.back (HR.out x hx) ((H8.out (by trivial)).2 x hx)⟩)
  have SZN := Lib.hid (St.cells_len7 (Fw.new c) (.slice none 0 0) OKN.out.len)
  have ONN := Lib.hid (St.cells_one (Fw.new c) (.slice none 0 0) rfl)
  go_upto_region 5 with (first
    | (refine wpList_load_row rfl 23 (.tmp 2) rfl w.heap.size rfl 23 cc (0, 0) _ X2.out Tryz.underlying23 rfl (by rw [SZ.out]; kernel_rfl) ?_)
    | (go_at_call 14; go_loud (refine (RNW.out _).mono ?_; rintro e w4 ⟨rfl, hb⟩; have B4 := Lib.hid hb; clear hb))
    | (refine wpList_store_new rfl 37 (.tmp 7) (.tmp 25) rfl (St.cells (Fw.new c) (.slice none 0 0)).toArray 37 _ rfl rfl (by rw [SZN.out]; kernel_rfl) (by rw [SZN.out]; rfl) ONN.out ?_; intro w5 hh hw; have Q5 := Lib.hid hh; have B5 := Lib.hid (gr_tr B4.out hw); clear hh hw))
  have L0 := Lib.hid (show Lp w p w4.heap.size (Fw.new c) (.slice none 0 0) (.slice none 0 0) [] [] w5 from ⟨S2.out.below B5.out, PcsAt.nil _ _, Q5.out, gr_tr D2.out B5.out⟩)
  have QL := Lib.hid (show w.heap.size ≤ w4.heap.size from Nat.le_trans D2.out.size B4.out.size)
  obtain ⟨q, hq⟩ : ∃ x, w4.heap.size = x := ⟨_, rfl⟩
  rw [hq] at L0 QL ⊢
  clear hq Q5 S2
  have X5 := Lib.hid (blk_below X2.out B5.out)
  have SN0 := Lib.hid (show (Stt.cells (Fw.new c).s).toArray.size = 9 by rw [List.size_toArray]; exact Stt.cells_len _ OKN.out.len)
  have SO0 := Lib.hid (show (Stt.cells (Fw.new c).s).toArray.all (·.oneCell') = true from Stt.ones _)
  have STA := Lib.hid (fun W h => State_at p (Fw.new c) (.slice none 0 0) [] W h)
  obtain ⟨s0, hs0⟩ : ∃ z, (Stt.cells (Fw.new c).s) = z := ⟨_, rfl⟩
  have HS0 := Lib.hid hs0
  rw [hs0] at SN0 SO0 STA
  clear hs0
  go_upto_region 6 with (first
    | (go_at_call 23; go_loud (refine (STA.out _ L0.out.s).mono ?_; rintro e w6 ⟨rfl, hb⟩; have B6 := Lib.hid hb; clear hb))
    | (refine wpList_store_new rfl 34 (.tmp 8) (.tmp 27) rfl s0.toArray 34 _ rfl rfl (by rw [SN0.out]; kernel_rfl) (by rw [SN0.out]; rfl) SO0.out ?_; intro w7 hh hw; have T7 := Lib.hid hh; have B7 := Lib.hid (gr_tr B6.out hw); clear hh hw))
  have L7 := Lib.hid (L0.out.below B7.out)
  have X7 := Lib.hid (blk_below X5.out B7.out)
  have TL := Lib.hid (show w.heap.size ≤ w6.heap.size from Nat.le_trans L0.out.b.size B6.out.size)
  have TP := Lib.hid (show p < w6.heap.size from Nat.lt_of_lt_of_le (Array.getElem?_eq_some_iff.1 L0.out.s.blk).1 B6.out.size)
  have TQ := Lib.hid (show q < w6.heap.size from Nat.lt_of_lt_of_le (Array.getElem?_eq_some_iff.1 L0.out.m).1 B6.out.size)
  have XL := Lib.hid (show w.heap.size < w6.heap.size from Nat.lt_of_lt_of_le (Array.getElem?_eq_some_iff.1 X5.out).1 B6.out.size)
  obtain ⟨gb, hgb⟩ : ∃ x, w6.heap.size = x := ⟨_, rfl⟩
  rw [hgb] at T7 TL TP TQ XL ⊢
  have T7 := Lib.hid (show w7.heap[gb]? = some (.cells (Stt.cells (Fw.new c).s).toArray 34 (0, 0)) by rw [HS0.out]; exact T7.out)
  have CQ := Lib.hid (show cc = c.cells.toArray from HCC.out.symm)
  clear hgb STA SO0 SN0 HS0 L0 B6 B7 X5 X2 X1 X0 RNW NEW
  go_wp2
  go_loopw [9] (fun i wr => ∃ (k : Nat) (x : St) (lv lvr : Value) (dvs dvr : List Value), k ≤ n ∧ i = .int .i64 k ∧ x.c = c ∧ Hid (Lp w p q x lv lvr dvs dvr wr) ∧ Hid (wr.heap[gb]? = some (.cells x.s.cells.toArray 34 (0, 0))) ∧ Hid (wr.heap[w.heap.size]? = some (.cells cc 23 (0, 0)))) (fun i _ => n - (intOf i).toNat)
  case atStart => exact ⟨0, _, _, _, _, _, by omega, rfl, rfl, L7, T7, X7⟩
  case round =>
    obtain ⟨k, x, lv, lvr, dvs, dvr, hk, rfl, hxc0, LL, TB, XB⟩ := hrel
    have HXC := Lib.hid hxc0
    clear hxc0
    by_cases hlt : k < n
    · obtain ⟨ca, hx⟩ : ∃ x, xs[k]? = some x := ⟨_, List.getElem?_eq_getElem (by rw [HN.out]; exact hlt)⟩
      obtain ⟨gq, o, cq, he1, hr1⟩ := SliceV.rng Cl.cells_len SV.out k ca hx (by decide)
      injection he1 with he1 he1' he1''
      subst he1; subst he1''
      have GL := Lib.hid (show gq < w.heap.size from World.block_lt_of_cell? w ⟨gq, o + k * 6 + 0, none⟩ (hr1 0 _ rfl))
      have R1 := Lib.hid (rng_below hr1 LL.out.b)
      have HB := BYS.out ca (List.mem_of_getElem? hx)
      obtain ⟨d, hd1, hd2⟩ := HB.2
      have DOX := Lib.hid (fun w' (h : Lp w p q x lv lvr dvs dvr w') => do_at p x lv lvr dvs dvr ca d w' h.s h.r w HB.1 hd1 PL.out h.b hd2)
      have CLL := Lib.hid (Cl.cells_len ca)
      have SZX := Lib.hid (St.cells_len7 x lvr LL.out.s.ok.len)
      have MQ := Lib.hid (fun w' (h : Lp w p q x lv lvr dvs dvr w') => h.m)
      have NPQ := Lib.hid (show p ≠ q from fun e => by
        have h1 := LL.out.s.blk; have h2 := LL.out.m
        unfold RbAt at h2
        rw [e, h2] at h1
        injection h1 with h1; injection h1 with _ h1 _
        exact absurd h1 (by decide))
      have NB := Lib.hid (show ¬ (gq = p ∨ gq = q) from fun hB => by have := GL.out; have := PL.out; have := QL.out; omega)
      obtain ⟨xc, hxc⟩ : ∃ c, ca.cells = c := ⟨_, rfl⟩
      rw [hxc] at R1 CLL DOX
      obtain ⟨cx, hcx⟩ : ∃ c, x.cells lvr = c := ⟨_, rfl⟩
      unfold RbAt at MQ
      rw [hcx] at SZX MQ DOX
      clear hx hr1 hxc he1' HB hd1 hd2 hcx
      have NPW := Lib.hid (show ¬ w.heap.size = p from fun e => by
        have h1 := LL.out.s.blk; rw [← e, XB.out] at h1; injection h1 with h1; injection h1 with _ h1 _; exact absurd h1 (by decide))
      have NQW := Lib.hid (show ¬ w.heap.size = q from fun e => by
        have h1 := LL.out.m; unfold RbAt at h1; rw [← e, XB.out] at h1; injection h1 with h1; injection h1 with _ h1 _; exact absurd h1 (by decide))
      have OKX := Lib.hid LL.out.s.ok
      go_upto_region 9 with fail
      refine wp_region_planW (fun k => k = p ∨ k = q) [(true, 0), (true, 2), (true, 3), (true, 4), (true, 5), (false, 1), (false, 6), (true, 7), (true, 8), (true, 9), (false, 10)] (by kernel_rfl) (by kernel_rfl) (by intro c a d v w h; cases d <;> exact h) ?_
      intro W1 K1 C1
      (refine wpS_firm rfl (fun K hK => ?_); simp only [Keep]; go_simp; refine hK _ ?_; clear hK K)
      (refine wpS_firm rfl (fun K hK => ?_); simp only [Keep]; go_simp; refine hK _ ?_; clear hK K)
      (refine wpS_firm rfl (fun K hK => ?_); simp only [Keep]; go_simp; refine hK _ ?_; clear hK K)
      (refine wpS_firm rfl (fun K hK => ?_); simp only [Keep]; go_simp; refine hK _ ?_; clear hK K)
      refine wpS_load_mid rfl rfl 44 (.tmp 39) rfl gq (o + k * 6) rfl xc _ (fun x hx => Keep.rng hx R1.out NB.out) Tryz.underlying44 rfl (by rw [CLL.out]; kernel_rfl) ?_
      have L1 := Lib.hid (LL.out.below C1.out)
      refine wpS_chain rfl ?_
      refine wpList_load_row rfl 37 (.tmp 7) rfl q rfl 37 cx.toArray (0, 0) _ (MQ.out _ L1.out) Tryz.underlying37 rfl (by rw [SZX.out]; kernel_rfl) ?_
      go_wp2
      refine ⟨K1.out, ?_⟩
      refine wpS_chain rfl ?_
      go_wp2_with (go_at_call 15; go_loud (refine (DOX.out _ L1.out).mono ?_; rintro e w4 ⟨lv', dvs', lvr', dvr', rfl, a1, a2, a3⟩; have S4 := Lib.hid a1; have P4 := Lib.hid a2; have C4 := Lib.hid a3; have K4 := Lib.hid (K1.out.chgK a3 (fun k hk => .inl (.inl hk))); have SZY := Lib.hid (St.cells_len7 (actS x ca d) lvr' a1.ok.len); have ONY := Lib.hid (St.cells_one (actS x ca d) lvr' (own_one' a2.own)); have Q4 := Lib.hid (a3.blk (MQ.out _ L1.out) (fun e => NPQ.out (Eq.symm e))); clear a1 a2 a3; obtain ⟨cy, hcy⟩ : ∃ z, (actS x ca d).cells lvr' = z := ⟨_, rfl⟩; have HCY := Lib.hid hcy; rw [hcy] at SZY ONY ⊢; clear hcy))
      refine ⟨K4.out, ?_⟩
      (refine wpS_firm rfl (fun K hK => ?_); simp only [Keep]; go_simp; refine hK _ ?_; clear hK K)
      (refine wpS_firm rfl (fun K hK => ?_); simp only [Keep]; go_simp; refine hK _ ?_; clear hK K)
      (refine wpS_firm rfl (fun K hK => ?_); simp only [Keep]; go_simp; refine hK _ ?_; clear hK K)
      refine wpS_chain rfl ?_
      refine wpList_store_rowC rfl 37 (.tmp 7) (.tmp 42) rfl q cy.toArray rfl rfl 37 _ Q4.out (by rw [SZY.out]; kernel_rfl) (by rw [SZY.out, SZX.out]) ONY.out ?_
      intro w5 h5 hc
      have C5 := Lib.hid hc
      have K5 := Lib.hid (K4.out.chgK hc (fun k hk => .inl (.inr hk)))
      have L5 := Lib.hid (L1.out.next PL.out QL.out S4.out P4.out C4.out (by rw [HCY.out]; exact h5) hc)
      clear h5 hc
      go_wp2
      refine ⟨K5.out, ?_⟩
      unfold wpS
      have T5 := Lib.hid (C5.out.blk (C4.out.blk (blk_below TB.out C1.out) (fun e => by have e' : gb = p := e; have := TP.out; omega)) (fun e => by have e' : gb = q := e; have := TQ.out; omega))
      have X5 := Lib.hid (C5.out.blk (C4.out.blk (blk_below XB.out C1.out) (fun e => NPW.out e)) (fun e => NQW.out e))
      have OKY := Lib.hid L5.out.s.ok
      have YC := Lib.hid (show (actS x ca d).c = c by rw [actS_c]; exact HXC.out)
      have YR := Lib.hid (show revAt (actS x ca d) x.s.act = revAt x x.s.act from actS_rev OKX.out ca d)
      have STY := Lib.hid (fun W h => State_at p (actS x ca d) lv' dvs' W h)
      obtain ⟨y, hy⟩ : ∃ z, actS x ca d = z := ⟨_, rfl⟩
      rw [hy] at L5 OKY YC YR STY
      have SNY := Lib.hid (show y.s.cells.toArray.size = 9 by rw [List.size_toArray]; exact Stt.cells_len _ OKY.out.len)
      have SOY := Lib.hid (show y.s.cells.toArray.all (·.oneCell') = true from Stt.ones _)
      obtain ⟨sy, hsy⟩ : ∃ z, y.s.cells = z := ⟨_, rfl⟩
      have HSY := Lib.hid hsy
      rw [hsy] at SNY SOY STY
      clear hy hsy
      go_upto_region 11 with (first
        | (go_at_call 23; go_loud (refine (STY.out _ L5.out.s).mono ?_; rintro e w6 ⟨rfl, hb⟩; have B6 := Lib.hid hb; clear hb))
        | (refine wpList_store_new rfl 34 (.tmp 10) (.tmp 45) rfl sy.toArray 34 _ rfl rfl (by rw [SNY.out]; kernel_rfl) (by rw [SNY.out]; rfl) SOY.out ?_; intro w8 hh hw; have T8 := Lib.hid hh; have B8 := Lib.hid (gr_tr B6.out hw); clear hh hw))
      obtain ⟨gy, hgy⟩ : ∃ z, w6.heap.size = z := ⟨_, rfl⟩
      rw [hgy] at T8 ⊢
      have GY := Lib.hid (show gb < gy by rw [← hgy]; exact Nat.lt_of_lt_of_le (Array.getElem?_eq_some_iff.1 T5.out).1 B6.out.size)
      have TB8 := Lib.hid (blk_below T5.out B8.out)
      have XB8 := Lib.hid (blk_below X5.out B8.out)
      have L8 := Lib.hid (L5.out.below B8.out)
      obtain ⟨⟨a1, a2⟩, n7⟩ : (1 ≤ y.s.act ∧ y.s.act ≤ c.n) ∧ c.n ≤ 7 := by
        have h1 := OKY.out.act; have h2 := cfgOk_is OKY.out.cfg; rw [YC.out] at h1 h2; exact ⟨h1, h2.2.1⟩
      obtain ⟨⟨b1, b2⟩, -⟩ : (1 ≤ x.s.act ∧ x.s.act ≤ c.n) ∧ c.n ≤ 7 := by
        have h1 := OKX.out.act; have h2 := cfgOk_is OKX.out.cfg; rw [HXC.out] at h1 h2; exact ⟨h1, h2.2.1⟩
      obtain ⟨j, hj⟩ : ∃ j : Nat, y.s.act = (j : Int) + 1 := ⟨(y.s.act - 1).toNat, by omega⟩
      have hj7 : j < 7 := by omega
      have r1 := rev_get OKY.out.len j hj7
      have r0 := rev_get OKY.out.len 0 (by omega)
      have rx := rev_get OKX.out.len j hj7
      have hne : revAt y ((j : Int) + 1) ≠ [] := by rw [← hj]; exact OKY.out.here
      have hkp : c.ro = true → revAt y ((0 : Nat) + 1 : Int) = c.rev := by
        have h1 := OKY.out.kept; rw [YC.out] at h1; exact h1
      have hsm : x.s.act = (j : Int) + 1 → revAt x ((j : Int) + 1) = revAt y ((j : Int) + 1) := fun e => by
        have h1 := YR.out; rw [e] at h1; exact h1.symm
      have e1 := strOf_empty (revAt y ((j : Int) + 1))
      have e1' : (revAt y ((j : Int) + 1) == []) = false := by simpa using hne
      rw [e1'] at e1
      have k0 : w8.cell? ⟨gy, 0, none⟩ = some (.int .i64 ((j : Int) + 1)) := (cell_of_row _ _ 0 _ _ _ T8.out).trans (by rw [← HSY.out, ← hj]; rfl)
      have k1 : w8.cell? ⟨gy, 2 + j, none⟩ = some (.string (strOf (revAt y ((j : Int) + 1)))) := (cell_of_row _ _ (2 + j) _ _ _ T8.out).trans (by rw [← HSY.out]; exact stt_rev y j _ r1)
      have k2 : w8.cell? ⟨gy, 2, none⟩ = some (.string (strOf (revAt y ((0 : Nat) + 1 : Int)))) := (cell_of_row _ _ 2 _ _ _ T8.out).trans (by rw [← HSY.out]; exact stt_rev y 0 _ r0)
      have k3 : w8.cell? ⟨gb, 0, none⟩ = some (.int .i64 x.s.act) := (cell_of_row _ _ 0 _ _ _ TB8.out).trans rfl
      have k4 : w8.cell? ⟨gb, 2 + j, none⟩ = some (.string (strOf (revAt x ((j : Int) + 1)))) := (cell_of_row _ _ (2 + j) _ _ _ TB8.out).trans (stt_rev x j _ rx)
      have k5 : w8.cell? ⟨w.heap.size, 0, none⟩ = some (.int .i64 c.n) := (cell_of_row _ _ 0 _ _ _ XB8.out).trans (by rw [CQ.out]; rfl)
      have k6 : w8.cell? ⟨w.heap.size, 1, none⟩ = some (.bool c.ro) := (cell_of_row _ _ 1 _ _ _ XB8.out).trans (by rw [CQ.out]; rfl)
      have k7 : w8.cell? ⟨w.heap.size, 2, none⟩ = some (.string (strOf c.rev)) := (cell_of_row _ _ 2 _ _ _ XB8.out).trans (by rw [CQ.out]; rfl)
      clear r1 r0 rx hne e1'
      obtain ⟨cn, hcn⟩ : ∃ z, c.n = z := ⟨_, rfl⟩
      rw [hcn] at k5 a2 n7 b2
      obtain ⟨xa, hxa⟩ : ∃ z, x.s.act = z := ⟨_, rfl⟩
      rw [hxa] at k3 hsm b1 b2
      obtain ⟨ra, hra⟩ : ∃ z, strOf (revAt y ((j : Int) + 1)) = z := ⟨_, rfl⟩
      obtain ⟨rb, hrb⟩ : ∃ z, strOf (revAt x ((j : Int) + 1)) = z := ⟨_, rfl⟩
      obtain ⟨rc, hrc⟩ : ∃ z, strOf (revAt y ((0 : Nat) + 1 : Int)) = z := ⟨_, rfl⟩
      obtain ⟨rd, hrd⟩ : ∃ z, strOf c.rev = z := ⟨_, rfl⟩
      rw [hra] at k1 e1
      rw [hrb] at k4
      rw [hrc] at k2
      rw [hrd] at k7
      have hkp2 : c.ro = true → rc = rd := fun h => by rw [← hrc, ← hrd, hkp h]
      have hsm2 : xa = (j : Int) + 1 → rb = ra := fun h => by rw [← hrb, ← hra, hsm h]
      obtain ⟨ro, hro⟩ : ∃ z, c.ro = z := ⟨_, rfl⟩
      rw [hro] at k6 hkp2
      have g1 : ¬ ((j : Int) + 1 < 1) := by omega
      have wj : IntKind.i64.wrap (j : Int) = (j : Int) := by rw [IntKind.wrap_i64]; omega
      have j0 : (0 : Int) ≤ (j : Int) := by omega
      have j7 : (j : Int) < 7 := by omega
      have g2 : ¬ (cn < (j : Int) + 1) := by omega
      have TG := Lib.hid (show w8.heap[gb]? = some (.cells x.s.cells.toArray 34 (0, 0)) from TB8.out)
      have SNX := Lib.hid (show x.s.cells.toArray.size = 9 by rw [List.size_toArray]; exact Stt.cells_len _ OKX.out.len)
      clear hcn hxa hra hrb hrc hrd hro hkp hsm a1 a2 b1 b2 n7 hgy
      have HJ := Lib.hid hj
      have HKP := Lib.hid hkp2; have HSM := Lib.hid hsm2
      clear hj hkp2 hsm2
      refine wp_region_quiet_lit (by kernel_rfl) (by kernel_rfl) ?_
      by_cases hea : xa = (j : Int) + 1
      · obtain rfl := HSM.out hea
        subst hea
        cases ro
        · ((repeat (with_reducible refine wpQuiet_step (fun K hK => ?_); go_simp; with_reducible refine hK _ ?_; clear hK K)); with_reducible refine wpQuiet_nil ?_; intro _ hw'; obtain ⟨nq, hw''⟩ := hw'; subst hw''; obtain ⟨V, hV⟩ : ∃ V, V = w8.drewN nq := ⟨_, rfl⟩; have DV := Lib.hid (show Below w8.heap.size w8 V by rw [hV]; exact gr_drewN _ _); rw [← hV]; have T9 := Lib.hid (blk_below T8.out DV.out); have G9 := Lib.hid (blk_below TG.out DV.out); have LV := Lib.hid (L8.out.below DV.out); have XV := Lib.hid (blk_below XB8.out DV.out); clear hV k0 k1 k2 k3 k4 k5 k6 k7; go_wp2_with (first | (refine wpList_load_row rfl 34 (.tmp 10) rfl gy rfl 34 sy.toArray (0, 0) _ T9.out Tryz.underlying34 rfl (by rw [SNY.out]; kernel_rfl) ?_) | (refine wpList_store_rowC rfl 34 (.tmp 8) (.tmp 99) rfl gb sy.toArray rfl rfl 34 _ G9.out (by rw [SNY.out]; kernel_rfl) (by rw [SNY.out, SNX.out]) SOY.out ?_; intro w9 h9 hc; have Z9 := Lib.hid h9; have C9 := Lib.hid hc; clear h9 hc)); go_roundw)
          case rel => exact ⟨k + 1, y, _, _, _, _, by omega, by go_num, YC.out, Lib.hid (LV.out.set2 (by have := TP.out; omega) (by have := TQ.out; omega) (by have := TL.out; omega) G9.out C9.out), by rw [HSY.out]; exact Z9, Lib.hid (C9.out.blk XV.out (fun e => by have e' : w.heap.size = gb := e; have := XL.out; omega))⟩
          case measure => simp [intOf]; omega
        · obtain rfl := HKP.out rfl
          ((repeat (with_reducible refine wpQuiet_step (fun K hK => ?_); go_simp; with_reducible refine hK _ ?_; clear hK K)); with_reducible refine wpQuiet_nil ?_; intro _ hw'; obtain ⟨nq, hw''⟩ := hw'; subst hw''; obtain ⟨V, hV⟩ : ∃ V, V = w8.drewN nq := ⟨_, rfl⟩; have DV := Lib.hid (show Below w8.heap.size w8 V by rw [hV]; exact gr_drewN _ _); rw [← hV]; have T9 := Lib.hid (blk_below T8.out DV.out); have G9 := Lib.hid (blk_below TG.out DV.out); have LV := Lib.hid (L8.out.below DV.out); have XV := Lib.hid (blk_below XB8.out DV.out); clear hV k0 k1 k2 k3 k4 k5 k6 k7; go_wp2_with (first | (refine wpList_load_row rfl 34 (.tmp 10) rfl gy rfl 34 sy.toArray (0, 0) _ T9.out Tryz.underlying34 rfl (by rw [SNY.out]; kernel_rfl) ?_) | (refine wpList_store_rowC rfl 34 (.tmp 8) (.tmp 99) rfl gb sy.toArray rfl rfl 34 _ G9.out (by rw [SNY.out]; kernel_rfl) (by rw [SNY.out, SNX.out]) SOY.out ?_; intro w9 h9 hc; have Z9 := Lib.hid h9; have C9 := Lib.hid hc; clear h9 hc)); go_roundw)
          case rel => exact ⟨k + 1, y, _, _, _, _, by omega, by go_num, YC.out, Lib.hid (LV.out.set2 (by have := TP.out; omega) (by have := TQ.out; omega) (by have := TL.out; omega) G9.out C9.out), by rw [HSY.out]; exact Z9, Lib.hid (C9.out.blk XV.out (fun e => by have e' : w.heap.size = gb := e; have := XL.out; omega))⟩
          case measure => simp [intOf]; omega
      · have hea2 : ((j : Int) + 1 == xa) = false := by rw [beq_eq_false_iff_ne]; exact fun e => hea e.symm
        clear hea
        cases ro
        · ((repeat (with_reducible refine wpQuiet_step (fun K hK => ?_); go_simp; with_reducible refine hK _ ?_; clear hK K)); with_reducible refine wpQuiet_nil ?_; intro _ hw'; obtain ⟨nq, hw''⟩ := hw'; subst hw''; obtain ⟨V, hV⟩ : ∃ V, V = w8.drewN nq := ⟨_, rfl⟩; have DV := Lib.hid (show Below w8.heap.size w8 V by rw [hV]; exact gr_drewN _ _); rw [← hV]; have T9 := Lib.hid (blk_below T8.out DV.out); have G9 := Lib.hid (blk_below TG.out DV.out); have LV := Lib.hid (L8.out.below DV.out); have XV := Lib.hid (blk_below XB8.out DV.out); clear hV k0 k1 k2 k3 k4 k5 k6 k7; go_wp2_with (first | (refine wpList_load_row rfl 34 (.tmp 10) rfl gy rfl 34 sy.toArray (0, 0) _ T9.out Tryz.underlying34 rfl (by rw [SNY.out]; kernel_rfl) ?_) | (refine wpList_store_rowC rfl 34 (.tmp 8) (.tmp 99) rfl gb sy.toArray rfl rfl 34 _ G9.out (by rw [SNY.out]; kernel_rfl) (by rw [SNY.out, SNX.out]) SOY.out ?_; intro w9 h9 hc; have Z9 := Lib.hid h9; have C9 := Lib.hid hc; clear h9 hc)); go_roundw)
          case rel => exact ⟨k + 1, y, _, _, _, _, by omega, by go_num, YC.out, Lib.hid (LV.out.set2 (by have := TP.out; omega) (by have := TQ.out; omega) (by have := TL.out; omega) G9.out C9.out), by rw [HSY.out]; exact Z9, Lib.hid (C9.out.blk XV.out (fun e => by have e' : w.heap.size = gb := e; have := XL.out; omega))⟩
          case measure => simp [intOf]; omega
        · obtain rfl := HKP.out rfl
          ((repeat (with_reducible refine wpQuiet_step (fun K hK => ?_); go_simp; with_reducible refine hK _ ?_; clear hK K)); with_reducible refine wpQuiet_nil ?_; intro _ hw'; obtain ⟨nq, hw''⟩ := hw'; subst hw''; obtain ⟨V, hV⟩ : ∃ V, V = w8.drewN nq := ⟨_, rfl⟩; have DV := Lib.hid (show Below w8.heap.size w8 V by rw [hV]; exact gr_drewN _ _); rw [← hV]; have T9 := Lib.hid (blk_below T8.out DV.out); have G9 := Lib.hid (blk_below TG.out DV.out); have LV := Lib.hid (L8.out.below DV.out); have XV := Lib.hid (blk_below XB8.out DV.out); clear hV k0 k1 k2 k3 k4 k5 k6 k7; go_wp2_with (first | (refine wpList_load_row rfl 34 (.tmp 10) rfl gy rfl 34 sy.toArray (0, 0) _ T9.out Tryz.underlying34 rfl (by rw [SNY.out]; kernel_rfl) ?_) | (refine wpList_store_rowC rfl 34 (.tmp 8) (.tmp 99) rfl gb sy.toArray rfl rfl 34 _ G9.out (by rw [SNY.out]; kernel_rfl) (by rw [SNY.out, SNX.out]) SOY.out ?_; intro w9 h9 hc; have Z9 := Lib.hid h9; have C9 := Lib.hid hc; clear h9 hc)); go_roundw)
          case rel => exact ⟨k + 1, y, _, _, _, _, by omega, by go_num, YC.out, Lib.hid (LV.out.set2 (by have := TP.out; omega) (by have := TQ.out; omega) (by have := TL.out; omega) G9.out C9.out), by rw [HSY.out]; exact Z9, Lib.hid (C9.out.blk XV.out (fun e => by have e' : w.heap.size = gb := e; have := XL.out; omega))⟩
          case measure => simp [intOf]; omega
    · go_wp2_with (go_at_call 12; go_loud ((with_reducible refine (known_any _).mono ?_); rintro e wk ⟨rfl, hbk⟩; have DK := Lib.hid hbk; clear hbk))
      go_ret
      exact ⟨rfl, gr_tr LL.out.b DK.out⟩
end Go.Proofs.YtabfmhlhdebcpaaGreatDoor
