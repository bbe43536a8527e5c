/- FirmwareRuns: the walk (printed by gen26.py). -/
import Derived.Test.YtabfmhlhdebcpaaGreatDoorFwM5
namespace Go.Proofs.YtabfmhlhdebcpaaGreatDoor
open Go.RowKit Go.Shelf Fw
set_option linter.unusedVariables false
set_option linter.unusedSimpArgs false
attribute [local go_sem] Oper.semAt_some
set_option maxHeartbeats 6400000 in
set_option maxRecDepth 20000 in
theorem lawRuns_no (c : Cfg) (v : Value) (xs : List Cl) (w : World) (hc : c.R) (hv : SliceV w Cl.cells v xs) (hR : ∀ x ∈ xs, Cl.R w x) (hok : cfgOk c = false) :
    Calls Tryz.prog 3 #[.agg c.cells.toArray, v] w fun e w' => e = .returned (.bool true) ∧ Below w.heap.size w w' := by
  have NEW := Lib.hid (fun W => New_no c W hc hok)
  have VAL := Lib.hid (fun W => Valid_at c false W hc hok)
  obtain ⟨W, hW⟩ : ∃ W, W = w.alloc (.cells c.cells.toArray 23) := ⟨_, rfl⟩
  have D0 := Lib.hid (show Below w.heap.size w W by rw [hW]; exact gr_alloc w _)
  have X0 := Lib.hid (show W.heap[w.heap.size]? = some (.cells c.cells.toArray 23 (0, 0)) by rw [hW]; exact heap_alloc_new w _)
  have SZ := Lib.hid (show c.cells.toArray.size = 4 from rfl)
  obtain ⟨cc, hcc⟩ : ∃ z, c.cells.toArray = z := ⟨_, rfl⟩
  rw [hcc] at NEW VAL X0 SZ hW ⊢
  have HW := Lib.hid hW
  clear hW hcc hc hok hv hR
  go_enter Tryz.func3, Tryz.ntmps3
  go_upto_region 1 with fail
  rw [← HW.out]
  go_upto_region 2 with (first
    | (refine wpList_load_row rfl 23 (.tmp 2) rfl w.heap.size rfl 23 cc (0, 0) _ X0.out Tryz.underlying23 rfl (by rw [SZ.out]; kernel_rfl) ?_)
    | (go_at_call 10; go_loud (refine (NEW.out _).mono ?_; rintro e w1 ⟨rfl, hb⟩; have D1 := Lib.hid (gr_tr D0.out hb); have X1 := Lib.hid (blk_below X0.out hb); clear hb)))
  go_upto_region 3 with (first
    | (refine wpList_load_row rfl 23 (.tmp 2) rfl w.heap.size rfl 23 cc (0, 0) _ X1.out Tryz.underlying23 rfl (by rw [SZ.out]; kernel_rfl) ?_)
    | (go_at_call 11; go_loud (refine (VAL.out _).mono ?_; rintro e w2 ⟨rfl, hb⟩; have D2 := Lib.hid (gr_tr D1.out hb); clear hb)))
  go_wp2_with (go_at_call 12; go_loud ((with_reducible refine (known_any _).mono ?_); rintro e wk ⟨rfl, hbk⟩; have DK := Lib.hid hbk; clear hbk))
  go_ret
  exact ⟨rfl, gr_tr D2.out DK.out⟩
set_option maxHeartbeats 6400000 in
set_option maxRecDepth 20000 in
theorem lawRuns (c : Cfg) (v : Value) (xs : List Cl) (w : World) (hc : c.R) (hv : SliceV w Cl.cells v xs) (hR : ∀ x ∈ xs, Cl.R w x) :
    Calls Tryz.prog 3 #[.agg c.cells.toArray, v] w fun e w' => e = .returned (.bool true) ∧ Below w.heap.size w w' := by
  cases hok : cfgOk c
  · exact lawRuns_no c v xs w hc hv hR hok
  have NEW := Lib.hid (fun W => New_ok c W hc hok)
  have VAL := Lib.hid (fun W => Valid_at c true W hc hok)
  have RNW := Lib.hid (fun W => rNew_at c W)
  have OKN := Lib.hid (Ok.new hok)
  obtain ⟨W, hW⟩ : ∃ W, W = w.alloc (.cells c.cells.toArray 23) := ⟨_, rfl⟩
  have D0 := Lib.hid (show Below w.heap.size w W by rw [hW]; exact gr_alloc w _)
  have X0 := Lib.hid (show W.heap[w.heap.size]? = some (.cells c.cells.toArray 23 (0, 0)) by rw [hW]; exact heap_alloc_new w _)
  have SZ := Lib.hid (show c.cells.toArray.size = 4 from rfl)
  obtain ⟨cc, hcc⟩ : ∃ z, c.cells.toArray = z := ⟨_, rfl⟩
  rw [hcc] at NEW VAL RNW X0 SZ hW ⊢
  have HW := Lib.hid hW
  have HCC := Lib.hid hcc
  have FEW := Lib.hid (fun W (h : Below w.heap.size w W) => few_le v xs W (SliceV.below hv h) (fun x hx => Cl.R.below (hR x hx) h))
  have SV := Lib.hid hv; have HR := Lib.hid hR
  obtain ⟨a, cp, rfl, -, hm1, hm2, -⟩ := id hv
  obtain ⟨n, hn⟩ : ∃ n, xs.length = n := ⟨_, rfl⟩
  have hmax : n ≤ 9223372036854775807 := by omega
  have HN := Lib.hid hn
  rw [hn] at FEW SV ⊢
  clear hW hcc hc hok hv hR hn hm1 hm2
  go_enter Tryz.func3, Tryz.ntmps3
  go_upto_region 1 with fail
  rw [← HW.out]
  go_upto_region 2 with (first
    | (refine wpList_load_row rfl 23 (.tmp 2) rfl w.heap.size rfl 23 cc (0, 0) _ X0.out Tryz.underlying23 rfl (by rw [SZ.out]; kernel_rfl) ?_)
    | (go_at_call 10; go_loud (refine (NEW.out _).mono ?_; rintro e w1 ⟨p, rfl, hs, hp, hb⟩; have S1 := Lib.hid hs; have PL := Lib.hid (Nat.le_trans D0.out.size hp); have D1 := Lib.hid (gr_tr D0.out hb); have X1 := Lib.hid (blk_below X0.out hb); clear hs hp hb)))
  go_upto_region 4 with (first
    | (refine wpList_load_row rfl 23 (.tmp 2) rfl w.heap.size rfl 23 cc (0, 0) _ X1.out Tryz.underlying23 rfl (by rw [SZ.out]; kernel_rfl) ?_)
    | (go_at_call 11; go_loud (refine (VAL.out _).mono ?_; rintro e w2 ⟨rfl, hb⟩; have D2 := Lib.hid (gr_tr D1.out hb); have X2 := Lib.hid (blk_below X1.out hb); have S2 := Lib.hid (S1.out.below hb); clear hb)))
  go_upto_region 6 with (first
    | (go_at_call 13; go_loud (refine (FEW.out _ D2.out).mono ?_; rintro e w3 ⟨rfl, z, rfl, h8⟩; have H8 := Lib.hid h8; clear h8; cases z))
    | (go_at_call 12; go_loud ((with_reducible refine (known_any _).mono ?_); rintro e wk ⟨rfl, hbk⟩; have DK := Lib.hid hbk; clear hbk)))
  · go_ret
    exact ⟨rfl, gr_tr D2.out DK.out⟩
  have BYS := Lib.hid (show Bys w xs from fun x hx => ⟨HR.out x hx, Cl.Small.back (HR.out x hx) ((H8.out (by trivial)).2 x hx)⟩)
  have SZN := Lib.hid (St.cells_len7 (Fw.new c) (.slice none 0 0) OKN.out.len)
  have ONN := Lib.hid (St.cells_one (Fw.new c) (.slice none 0 0) rfl)
  go_upto_region 7 with (first
    | (refine wpList_load_row rfl 23 (.tmp 2) rfl w.heap.size rfl 23 cc (0, 0) _ X2.out Tryz.underlying23 rfl (by rw [SZ.out]; kernel_rfl) ?_)
    | (go_at_call 14; go_loud (refine (RNW.out _).mono ?_; rintro e w4 ⟨rfl, hb⟩; have B4 := Lib.hid hb; clear hb))
    | (refine wpList_store_new rfl 37 (.tmp 7) (.tmp 40) rfl (St.cells (Fw.new c) (.slice none 0 0)).toArray 37 _ rfl rfl (by rw [SZN.out]; kernel_rfl) (by rw [SZN.out]; rfl) ONN.out ?_; intro w5 hh hw; have Q5 := Lib.hid hh; have B5 := Lib.hid (gr_tr B4.out hw); clear hh hw))
  have L0 := Lib.hid (show Lp w p w4.heap.size (Fw.new c) (.slice none 0 0) (.slice none 0 0) [] [] w5 from ⟨S2.out.below B5.out, PcsAt.nil _ _, Q5.out, gr_tr D2.out B5.out⟩)
  have QL := Lib.hid (show w.heap.size ≤ w4.heap.size from Nat.le_trans D2.out.size B4.out.size)
  obtain ⟨q, hq⟩ : ∃ x, w4.heap.size = x := ⟨_, rfl⟩
  rw [hq] at L0 QL ⊢
  clear hq Q5 S2
  go_wp2
  go_loopw [8, 9] (fun i f wr => ∃ (k : Nat) (z : Bool) (x : St) (lv lvr : Value) (dvs dvr : List Value), k ≤ n ∧ i = .int .i64 k ∧ Hid (Lp w p q x lv lvr dvs dvr wr)) (fun i _ _ => n - (intOf i).toNat)
  case atStart => exact ⟨0, false, _, _, _, _, _, by omega, rfl, L0⟩
  case round =>
    obtain ⟨k, z, x, lv, lvr, dvs, dvr, hk, rfl, LL⟩ := hrel
    by_cases hlt : k < n
    · obtain ⟨ca, hx⟩ : ∃ x, xs[k]? = some x := ⟨_, List.getElem?_eq_getElem (by rw [HN.out]; exact hlt)⟩
      obtain ⟨gq, o, cq, he1, hr1⟩ := SliceV.rng Cl.cells_len SV.out k ca hx (by decide)
      injection he1 with he1 he1' he1''
      subst he1; subst he1''
      have GL := Lib.hid (show gq < w.heap.size from World.block_lt_of_cell? w ⟨gq, o + k * 6 + 0, none⟩ (hr1 0 _ rfl))
      have R1 := Lib.hid (rng_below hr1 LL.out.b)
      have HB := BYS.out ca (List.mem_of_getElem? hx)
      obtain ⟨d, hd1, hd2⟩ := HB.2
      have DOX := Lib.hid (fun w' (h : Lp w p q x lv lvr dvs dvr w') => do_at p x lv lvr dvs dvr ca d w' h.s h.r w HB.1 hd1 PL.out h.b hd2)
      have CLL := Lib.hid (Cl.cells_len ca)
      have SZX := Lib.hid (St.cells_len7 x lvr LL.out.s.ok.len)
      have MQ := Lib.hid (fun w' (h : Lp w p q x lv lvr dvs dvr w') => h.m)
      have NPQ := Lib.hid (show p ≠ q from fun e => by
        have h1 := LL.out.s.blk; have h2 := LL.out.m
        unfold RbAt at h2
        rw [e, h2] at h1
        injection h1 with h1; injection h1 with _ h1 _
        exact absurd h1 (by decide))
      have NB := Lib.hid (show ¬ (gq = p ∨ gq = q) from fun hB => by have := GL.out; have := PL.out; have := QL.out; omega)
      obtain ⟨xc, hxc⟩ : ∃ c, ca.cells = c := ⟨_, rfl⟩
      rw [hxc] at R1 CLL DOX
      obtain ⟨cx, hcx⟩ : ∃ c, x.cells lvr = c := ⟨_, rfl⟩
      unfold RbAt at MQ
      rw [hcx] at SZX MQ DOX
      clear hx hr1 hxc he1' HB hd1 hd2 hcx
      go_upto_region 11 with fail
      refine wp_region_planW (fun k => k = p ∨ k = q) [(true, 0), (true, 2), (true, 3), (true, 4), (true, 5), (false, 1), (false, 6), (true, 7), (true, 8), (true, 9), (false, 10), (true, 11)] (by kernel_rfl) (by kernel_rfl) (by intro c a d v w h; cases d <;> exact h) ?_
      intro W1 K1 C1
      (refine wpS_firm rfl (fun K hK => ?_); simp only [Keep]; go_simp; refine hK _ ?_; clear hK K)
      (refine wpS_firm rfl (fun K hK => ?_); simp only [Keep]; go_simp; refine hK _ ?_; clear hK K)
      (refine wpS_firm rfl (fun K hK => ?_); simp only [Keep]; go_simp; refine hK _ ?_; clear hK K)
      (refine wpS_firm rfl (fun K hK => ?_); simp only [Keep]; go_simp; refine hK _ ?_; clear hK K)
      refine wpS_load_mid rfl rfl 44 (.tmp 52) rfl gq (o + k * 6) rfl xc _ (fun x hx => Keep.rng hx R1.out NB.out) Tryz.underlying44 rfl (by rw [CLL.out]; kernel_rfl) ?_
      have L1 := Lib.hid (LL.out.below C1.out)
      refine wpS_chain rfl ?_
      refine wpList_load_row rfl 37 (.tmp 7) rfl q rfl 37 cx.toArray (0, 0) _ (MQ.out _ L1.out) Tryz.underlying37 rfl (by rw [SZX.out]; kernel_rfl) ?_
      go_wp2
      refine ⟨K1.out, ?_⟩
      refine wpS_chain rfl ?_
      go_wp2_with (go_at_call 15; go_loud (refine (DOX.out _ L1.out).mono ?_; rintro e w4 ⟨lv', dvs', lvr', dvr', rfl, a1, a2, a3⟩; have S4 := Lib.hid a1; have P4 := Lib.hid a2; have C4 := Lib.hid a3; have K4 := Lib.hid (K1.out.chgK a3 (fun k hk => .inl (.inl hk))); have SZY := Lib.hid (St.cells_len7 (actS x ca d) lvr' a1.ok.len); have ONY := Lib.hid (St.cells_one (actS x ca d) lvr' (own_one' a2.own)); have Q4 := Lib.hid (a3.blk (MQ.out _ L1.out) (fun e => NPQ.out (Eq.symm e))); clear a1 a2 a3; obtain ⟨cy, hcy⟩ : ∃ z, (actS x ca d).cells lvr' = z := ⟨_, rfl⟩; have HCY := Lib.hid hcy; rw [hcy] at SZY ONY ⊢; clear hcy))
      refine ⟨K4.out, ?_⟩
      (refine wpS_firm rfl (fun K hK => ?_); simp only [Keep]; go_simp; refine hK _ ?_; clear hK K)
      (refine wpS_firm rfl (fun K hK => ?_); simp only [Keep]; go_simp; refine hK _ ?_; clear hK K)
      (refine wpS_firm rfl (fun K hK => ?_); simp only [Keep]; go_simp; refine hK _ ?_; clear hK K)
      refine wpS_chain rfl ?_
      refine wpList_store_rowC rfl 37 (.tmp 7) (.tmp 55) rfl q cy.toArray rfl rfl 37 _ Q4.out (by rw [SZY.out]; kernel_rfl) (by rw [SZY.out, SZX.out]) ONY.out ?_
      intro w5 h5 hc
      have C5 := Lib.hid hc
      have K5 := Lib.hid (K4.out.chgK hc (fun k hk => .inl (.inr hk)))
      have L5 := Lib.hid (L1.out.next PL.out QL.out S4.out P4.out C4.out (by rw [HCY.out]; exact h5) hc)
      clear h5 hc
      go_wp2
      refine ⟨K5.out, ?_⟩
      (refine wpS_firm rfl (fun K hK => ?_); simp only [Keep]; go_simp; refine hK _ ?_; clear hK K)
      unfold wpS
      go_wp2
      go_roundw
      case rel => exact ⟨k + 1, true, _, _, _, _, _, by omega, by go_num, L5⟩
      case measure => simp [intOf]; omega
    · go_wp2_with (go_at_call 12; go_loud ((with_reducible refine (known_any _).mono ?_); rintro e wk ⟨rfl, hbk⟩; have DK := Lib.hid hbk; clear hbk))
      go_ret
      exact ⟨rfl, gr_tr LL.out.b DK.out⟩
end Go.Proofs.YtabfmhlhdebcpaaGreatDoor
