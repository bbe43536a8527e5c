/- FirmwareCopies: the walk (printed by gen26.py). -/
import Derived.Test.YtabfmhlhdebcpaaGreatDoorFwM5
import Derived.Test.YtabfmhlhdebcpaaGreatDoorGuarded
namespace Go.Proofs.YtabfmhlhdebcpaaGreatDoor
open Go.RowKit Go.Shelf Fw
set_option linter.unusedVariables false
set_option linter.unusedSimpArgs false
attribute [local go_sem] Oper.semAt_some
set_option maxRecDepth 20000 in
theorem Copy_at (p : Nat) (x : St) (lv : Value) (dvs : List Value) (w : World) (hd : SlAt w p x lv dvs) :
    Calls Tryz.prog 26 #[.pointer (some ⟨p, 0, none⟩)] w fun e w' => ∃ c u, e = .returned (.pointer (some ⟨c, 0, none⟩)) ∧ SlAt w' c x u dvs ∧ w.heap.size ≤ c ∧ Below w.heap.size w w' := by
  have NON := Lib.hid (fun w h => none_at p x lv dvs w h)
  have hz := hd.pcs.zlen
  have hlen := hd.few
  obtain ⟨zs, hzs⟩ : ∃ z, (x.ps.zip dvs) = z := ⟨_, rfl⟩
  have CLN := Lib.hid (fun w' (h : Below w.heap.size w w') => ClonePc_at lv zs w' (by rw [← hzs]; exact SliceV.below hd.pcs.slice h) (by rw [← hzs, hz]; omega) (by rw [← hzs]; exact hd.pcs.ones))
  have DD := Lib.hid hd
  have SZ := Lib.hid (St.cells_len7 x lv hd.ok.len)
  have ONE := Lib.hid (St.cells_one x lv (own_one' hd.pcs.own))
  have SET := Lib.hid (fun u => St.set_last x lv u x.ps hd.ok.len)
  rw [hzs] at hz
  have HZ := Lib.hid hz
  have HZS := Lib.hid hzs
  have BLK := Lib.hid hd.blk
  have p13 : w.cell? ⟨p, 13, none⟩ = some lv := hd.cpc
  obtain ⟨al, cl, hlv⟩ : ∃ a c, lv = .slice a x.ps.length c := own_shape hd.pcs.own
  have HLV := Lib.hid hlv
  have LST := Lib.hid (show (x.cells lv).toArray[13]? = some lv by rw [List.getElem?_toArray]; exact St.cells_last x lv hd.ok.len)
  obtain ⟨cs, hcs⟩ : ∃ z, (x.cells lv).toArray = z := ⟨_, rfl⟩
  rw [hcs] at SZ ONE SET BLK LST
  clear hd hz hlen hzs hcs
  subst hlv
  go_enter Tryz.func26, Tryz.ntmps26
  go_upto_region 4 with (first
    | (go_at_call 40; go_loud (refine (NON.out _ DD.out).mono ?_; rintro e w1 ⟨rfl, rfl⟩))
    | (refine wpList_load_row rfl 74 (.tmp 7) rfl p rfl 74 cs (0, 0) _ BLK.out Tryz.underlying74 rfl (by rw [SZ.out]; kernel_rfl) ?_)
    | (refine wpList_store_new rfl 74 (.tmp 3) (.tmp 8) rfl cs 74 _ rfl rfl (by rw [SZ.out]; kernel_rfl) (by rw [SZ.out]; rfl) ONE.out ?_; intro w2 hh hw; have X2 := Lib.hid hh; have B2 := Lib.hid hw; clear hh hw))
  have P2 := Lib.hid (below_cellE B2.out p13)
  have q13 : w2.cell? ⟨p, 13, none⟩ = some (.slice al x.ps.length cl) := P2.out
  have PW := Lib.hid (show p < w.heap.size from (Array.getElem?_eq_some_iff.1 BLK.out).1)
  obtain ⟨g, hg⟩ : ∃ z, w.heap.size = z := ⟨_, rfl⟩
  have HG := Lib.hid hg
  rw [hg] at X2 ⊢
  clear p13 P2 hg
  go_wp2_with (go_at_call 50; go_loud (refine (CLN.out _ B2.out).mono ?_; rintro e w3 ⟨u, rfl, ho, hb⟩; obtain ⟨au, cu, rfl⟩ := own_shape ho; have O3 := Lib.hid ho; have X3 := Lib.hid (blk_below X2.out hb); have D3 := Lib.hid (gr_tr B2.out hb); have x13 : w3.cell? ⟨g, 13, none⟩ = some (.slice al x.ps.length cl) := (cell_of_row _ _ 13 _ _ _ X3.out).trans LST.out; have z13 := frozen_of_row _ _ 13 _ _ X3.out; clear ho hb))
  go_ret
  have GL := (Array.getElem?_eq_some_iff.1 X2.out).1
  have C4 : Chg (fun k => k = g) w3 (w3.setCell ⟨g, 13, none⟩ (.slice au zs.length cu)) := Chg.setCell (B := fun k => k = g) (p := ⟨g, 13, none⟩) w3 rfl _
  refine ⟨g, .slice au zs.length cu, rfl, ⟨?_, ⟨?_, DD.out.pcs.len, fun i q dv h1 h2 => ?_⟩, DD.out.ok⟩, by rw [← HG.out]; exact Nat.le_refl _, ?_⟩
  · have h := heap_setCell_same w3 g 13 _ _ (.slice au zs.length cu) X3.out
    rw [SET.out] at h
    exact h
  · have h := own_base (own_chg O3.out C4 (fun k hk e => by have e' : k = g := e; have := (O3.out.lt k hk).1; omega)) (Nat.zero_le _)
    rw [HZS.out, ← HZ.out]
    exact h
  · exact own_chg (own_below (DD.out.pcs.el i q dv h1 h2) D3.out) C4 (fun k hk e => by
      have e' : k = g := e
      have := ((DD.out.pcs.el i q dv h1 h2).lt k hk).2
      have := HG.out; omega)
  · have := D3.out.setCell (p := ⟨g, 13, none⟩) (by show w.heap.size ≤ g; rw [HG.out]; exact Nat.le_refl _) (.slice au zs.length cu)
    rw [← HG.out]
    exact (by rw [HG.out] at this; rw [HG.out]; exact this)
/-- A step on one side leaves the other. -/
theorem Lp.other {w0 W1 w4 w5 : World} {p q c qc : Nat} {x : St} {lv lvr : Value} {dvs dvr : List Value} {cs1 cs2 : Array Value} (h : Lp w0 p q x lv lvr dvs dvr W1) (hc : W1.heap[c]? = some (.cells cs1 74 (0, 0))) (C4 : Chg (fun k => k = c) W1 w4) (hqc : w4.heap[qc]? = some (.cells cs2 37 (0, 0))) (C5 : Chg (fun k => k = qc) w4 w5) (hpc : p ≠ c) (hqq : q ≠ qc) (hcb : w0.heap.size ≤ c) (hqb : w0.heap.size ≤ qc) : Lp w0 p q x lv lvr dvs dvr w5 := by
  have s1 : SlAt w4 p x lv dvs := ⟨C4.blk h.s.blk hpc, h.s.pcs.set hc (by decide) (by decide) C4, h.s.ok⟩
  have m1 : RbAt w4 q x lvr := C4.blk h.m (fun e => by
    have e' : q = c := e
    have h2 := h.m
    unfold RbAt at h2
    rw [e', hc] at h2
    injection h2 with h2; injection h2 with _ h2 _
    exact absurd h2 (by decide))
  have B4 : Below w0.heap.size w0 w4 := h.b.trans (C4.below (fun k e => by have e' : k = c := e; omega) h.b.size)
  exact ⟨s1.set hqc (by decide) (by decide) (by decide) C5, (h.r.set hc (by decide) (by decide) C4).set hqc (by decide) (by decide) C5, C5.blk m1 hqq, B4.trans (C5.below (fun k e => by have e' : k = qc := e; omega) B4.size)⟩
/-- A side: slots and their reference. -/
def Sd (w0 : World) (p q : Nat) (W : World) : Prop := ∃ x lv lvr dvs dvr, Lp w0 p q x lv lvr dvs dvr W
theorem wp_meet {P : Program} {c : Code} {Q : Exit → Act → World → Prop} {a : Act} {w : World} {Facts : Nat → Nat → Value → World → Prop} (h : ∃ A : Nat → Nat → Act, c.wp P (Exit.then (fun a w => ∃ c qc cv, a = A c qc ∧ Facts c qc cv w) (fun _ _ _ => False)) a w ∧ ∀ c qc cv w, Facts c qc cv w → Q .normal (A c qc) w) : c.wp P Q a w := by
  obtain ⟨A, h1, h2⟩ := h
  refine Code.wp_mono (fun e a w h => ?_) h1
  cases e
  case normal =>
    obtain ⟨c, qc, cv, rfl, hf⟩ := h
    exact h2 _ _ _ _ hf
  all_goals exact h.elim
set_option maxHeartbeats 6400000 in
set_option maxRecDepth 20000 in
theorem lawCopies_no (c : Cfg) (v1 v2 v3 : Value) (w : World) (hc : c.R) (hok : cfgOk c = false) :
    Calls Tryz.prog 8 #[.agg c.cells.toArray, v1, v2, v3] w fun e w' => e = .returned (.bool true) ∧ Below w.heap.size w w' := by
  have NEW := Lib.hid (fun W => New_no c W hc hok)
  obtain ⟨W, hW⟩ : ∃ W, W = w.alloc (.cells c.cells.toArray 23) := ⟨_, rfl⟩
  have D0 := Lib.hid (show Below w.heap.size w W by rw [hW]; exact gr_alloc w _)
  have X0 := Lib.hid (show W.heap[w.heap.size]? = some (.cells c.cells.toArray 23 (0, 0)) by rw [hW]; exact heap_alloc_new w _)
  have SZ := Lib.hid (show c.cells.toArray.size = 4 from rfl)
  obtain ⟨cc, hcc⟩ : ∃ z, c.cells.toArray = z := ⟨_, rfl⟩
  rw [hcc] at NEW X0 SZ hW ⊢
  have HW := Lib.hid hW
  clear hW hcc hc hok
  go_enter Tryz.func8, Tryz.ntmps8
  go_upto_region 1 with fail
  rw [← HW.out]
  go_upto_region 2 with (first
    | (refine wpList_load_row rfl 23 (.tmp 4) rfl w.heap.size rfl 23 cc (0, 0) _ X0.out Tryz.underlying23 rfl (by rw [SZ.out]; kernel_rfl) ?_)
    | (go_at_call 10; go_loud (refine (NEW.out _).mono ?_; rintro e w1 ⟨rfl, hb⟩; have D1 := Lib.hid (gr_tr D0.out hb); have X1 := Lib.hid (blk_below X0.out hb); clear hb)))
  go_wp2_with (go_at_call 12; go_loud ((with_reducible refine (known_any _).mono ?_); rintro e wk ⟨rfl, hbk⟩; have DK := Lib.hid hbk; clear hbk))
  go_ret
  exact ⟨rfl, gr_tr D1.out DK.out⟩
set_option maxHeartbeats 12800000 in
set_option maxRecDepth 20000 in
theorem lawCopies (c : Cfg) (v1 v2 v3 : Value) (xs ys zs : List Cl) (w : World) (hc : c.R) (hv1 : SliceV w Cl.cells v1 xs) (hR1 : ∀ x ∈ xs, Cl.R w x) (hv2 : SliceV w Cl.cells v2 ys) (hR2 : ∀ x ∈ ys, Cl.R w x) (hv3 : SliceV w Cl.cells v3 zs) (hR3 : ∀ x ∈ zs, Cl.R w x) :
    Calls Tryz.prog 8 #[.agg c.cells.toArray, v1, v2, v3] w fun e w' => e = .returned (.bool true) ∧ Below w.heap.size w w' := by
  cases hok : cfgOk c
  · exact lawCopies_no c v1 v2 v3 w hc hok
  have NEW := Lib.hid (fun W => New_ok c W hc hok)
  have RNW := Lib.hid (fun W => rNew_at c W)
  have OKN := Lib.hid (Ok.new hok)
  obtain ⟨W, hW⟩ : ∃ W, W = w.alloc (.cells c.cells.toArray 23) := ⟨_, rfl⟩
  have D0 := Lib.hid (show Below w.heap.size w W by rw [hW]; exact gr_alloc w _)
  have X0 := Lib.hid (show W.heap[w.heap.size]? = some (.cells c.cells.toArray 23 (0, 0)) by rw [hW]; exact heap_alloc_new w _)
  have SZ := Lib.hid (show c.cells.toArray.size = 4 from rfl)
  obtain ⟨cc, hcc⟩ : ∃ z, c.cells.toArray = z := ⟨_, rfl⟩
  rw [hcc] at NEW RNW X0 SZ hW ⊢
  have HW := Lib.hid hW
  have FEW1 := Lib.hid (fun W (h : Below w.heap.size w W) => few_le v1 xs W (SliceV.below hv1 h) (fun x hx => Cl.R.below (hR1 x hx) h))
  have SV1 := Lib.hid hv1; have HR1 := Lib.hid hR1
  obtain ⟨a1, cp1, rfl, -, hm1, hm2, -⟩ := id hv1
  obtain ⟨n1, hn⟩ : ∃ n, xs.length = n := ⟨_, rfl⟩
  have hmax1 : n1 ≤ 9223372036854775807 := by omega
  have HN1 := Lib.hid hn
  rw [hn] at FEW1 SV1 ⊢
  clear hv1 hR1 hn hm1 hm2
  have FEW2 := Lib.hid (fun W (h : Below w.heap.size w W) => few_le v2 ys W (SliceV.below hv2 h) (fun x hx => Cl.R.below (hR2 x hx) h))
  have SV2 := Lib.hid hv2; have HR2 := Lib.hid hR2
  obtain ⟨a2, cp2, rfl, -, hm1, hm2, -⟩ := id hv2
  obtain ⟨n2, hn⟩ : ∃ n, ys.length = n := ⟨_, rfl⟩
  have hmax2 : n2 ≤ 9223372036854775807 := by omega
  have HN2 := Lib.hid hn
  rw [hn] at FEW2 SV2 ⊢
  clear hv2 hR2 hn hm1 hm2
  have FEW3 := Lib.hid (fun W (h : Below w.heap.size w W) => few_le v3 zs W (SliceV.below hv3 h) (fun x hx => Cl.R.below (hR3 x hx) h))
  have SV3 := Lib.hid hv3; have HR3 := Lib.hid hR3
  obtain ⟨a3, cp3, rfl, -, hm1, hm2, -⟩ := id hv3
  obtain ⟨n3, hn⟩ : ∃ n, zs.length = n := ⟨_, rfl⟩
  have hmax3 : n3 ≤ 9223372036854775807 := by omega
  have HN3 := Lib.hid hn
  rw [hn] at FEW3 SV3 ⊢
  clear hv3 hR3 hn hm1 hm2
  clear hW hcc hc hok
  go_enter Tryz.func8, Tryz.ntmps8
  let FT : Exit → Act → World → Prop := bodyPost Tryz.prog Tryz.f8 (fun _ _ => True)
  go_upto_region 1 with fail
  rw [← HW.out]
  go_upto_region 2 with (first
    | (refine wpList_load_row rfl 23 (.tmp 4) rfl w.heap.size rfl 23 cc (0, 0) _ X0.out Tryz.underlying23 rfl (by rw [SZ.out]; kernel_rfl) ?_)
    | (go_at_call 10; go_loud (refine (NEW.out _).mono ?_; rintro e w1 ⟨p, rfl, hs, hp, hb⟩; have S2 := Lib.hid hs; have PL := Lib.hid (Nat.le_trans D0.out.size hp); have D2 := Lib.hid (gr_tr D0.out hb); have X2 := Lib.hid (blk_below X0.out hb); clear hs hp hb)))
  go_upto_region 4 with (first
    | (go_at_call 13; (with_reducible refine (FEW1.out _ D2.out).mono ?_); go_loud (rintro e w3 ⟨rfl, z, rfl, h8⟩; have H81 := Lib.hid h8; clear h8; cases z))
    | (go_at_call 13; (with_reducible refine (FEW2.out _ D2.out).mono ?_); go_loud (rintro e w3 ⟨rfl, z, rfl, h8⟩; have H82 := Lib.hid h8; clear h8; cases z))
    | (go_at_call 13; (with_reducible refine (FEW3.out _ D2.out).mono ?_); go_loud (rintro e w3 ⟨rfl, z, rfl, h8⟩; have H83 := Lib.hid h8; clear h8; cases z))
    | (go_at_call 12; go_loud ((with_reducible refine (known_any _).mono ?_); rintro e wk ⟨rfl, hbk⟩; have DK := Lib.hid hbk; clear hbk)))
  iterate 3
    · go_ret
      exact ⟨rfl, gr_tr D2.out DK.out⟩
  have BYS1 := Lib.hid (show Bys w xs from fun x hx => ⟨HR1.out x hx, Cl.Small.back (HR1.out x hx) ((H81.out (by trivial)).2 x hx)⟩)
  have BYS2 := Lib.hid (show Bys w ys from fun x hx => ⟨HR2.out x hx, Cl.Small.back (HR2.out x hx) ((H82.out (by trivial)).2 x hx)⟩)
  have BYS3 := Lib.hid (show Bys w zs from fun x hx => ⟨HR3.out x hx, Cl.Small.back (HR3.out x hx) ((H83.out (by trivial)).2 x hx)⟩)
  clear FEW1 FEW2 FEW3 H81 H82 H83 HR1 HR2 HR3
  have SZN := Lib.hid (St.cells_len7 (Fw.new c) (.slice none 0 0) OKN.out.len)
  have ONN := Lib.hid (St.cells_one (Fw.new c) (.slice none 0 0) rfl)
  go_upto_region 5 with (first
    | (refine wpList_load_row rfl 23 (.tmp 4) rfl w.heap.size rfl 23 cc (0, 0) _ X2.out Tryz.underlying23 rfl (by rw [SZ.out]; kernel_rfl) ?_)
    | (go_at_call 14; go_loud (refine (RNW.out _).mono ?_; rintro e w4 ⟨rfl, hb⟩; have B4 := Lib.hid hb; clear hb))
    | (refine wpList_store_new rfl 37 (.tmp 11) (.tmp 41) rfl (St.cells (Fw.new c) (.slice none 0 0)).toArray 37 _ rfl rfl (by rw [SZN.out]; kernel_rfl) (by rw [SZN.out]; rfl) ONN.out ?_; intro w5 hh hw; have Q5 := Lib.hid hh; have B5 := Lib.hid (gr_tr B4.out hw); clear hh hw))
  have L0 := Lib.hid (show Lp w p w4.heap.size (Fw.new c) (.slice none 0 0) (.slice none 0 0) [] [] w5 from ⟨S2.out.below B5.out, PcsAt.nil _ _, Q5.out, gr_tr D2.out B5.out⟩)
  have QL := Lib.hid (show w.heap.size ≤ w4.heap.size from Nat.le_trans D2.out.size B4.out.size)
  obtain ⟨q, hq⟩ : ∃ x, w4.heap.size = x := ⟨_, rfl⟩
  rw [hq] at L0 QL ⊢
  clear hq Q5 S2
  clear X0 X2 NEW RNW D0 B4 B5 OKN ONN SZN SZ
  go_upto_region 7 with fail
  go_loopw [12, 13] (fun f i wr => ∃ (k : Nat), k ≤ n1 ∧ i = .int .i64 k ∧ f = .bool true ∧ Hid (Sd w p q wr)) (fun _ i _ => n1 - (intOf i).toNat)
  case atStart => exact ⟨0, by omega, rfl, rfl, Lib.hid ⟨_, _, _, _, _, L0.out⟩⟩
  case round =>
    obtain ⟨k, hk, rfl, rfl, SS⟩ := hrel
    obtain ⟨x, lv, lvr, dvs, dvr, hLL⟩ := SS.out
    have LL := Lib.hid hLL
    clear hLL SS
    by_cases hlt : k < n1
    · obtain ⟨ca, hx⟩ : ∃ x, xs[k]? = some x := ⟨_, List.getElem?_eq_getElem (by rw [HN1.out]; exact hlt)⟩
      obtain ⟨gq, o, cq, he1, hr1⟩ := SliceV.rng Cl.cells_len SV1.out k ca hx (by decide)
      injection he1 with he1 he1' he1''
      subst he1; subst he1''
      have GL := Lib.hid (show gq < w.heap.size from World.block_lt_of_cell? w ⟨gq, o + k * 6 + 0, none⟩ (hr1 0 _ rfl))
      have R1 := Lib.hid (rng_below hr1 LL.out.b)
      have HB := BYS1.out ca (List.mem_of_getElem? hx)
      obtain ⟨d, hd1, hd2⟩ := HB.2
      have DOX := Lib.hid (fun w' (h : Lp w p q x lv lvr dvs dvr w') => do_at p x lv lvr dvs dvr ca d w' h.s h.r w HB.1 hd1 PL.out h.b hd2)
      have CLL := Lib.hid (Cl.cells_len ca)
      have SZX := Lib.hid (St.cells_len7 x lvr LL.out.s.ok.len)
      have MQ := Lib.hid (fun w' (h : Lp w p q x lv lvr dvs dvr w') => h.m)
      have NPQ := Lib.hid (show p ≠ q from fun e => by
        have h1 := LL.out.s.blk; have h2 := LL.out.m
        unfold RbAt at h2
        rw [e, h2] at h1
        injection h1 with h1; injection h1 with _ h1 _
        exact absurd h1 (by decide))
      have NB := Lib.hid (show ¬ (gq = p ∨ gq = q) from fun hB => by have := GL.out; have := PL.out; have := QL.out; omega)
      obtain ⟨xc, hxc⟩ : ∃ c, ca.cells = c := ⟨_, rfl⟩
      rw [hxc] at R1 CLL DOX
      obtain ⟨cx, hcx⟩ : ∃ c, x.cells lvr = c := ⟨_, rfl⟩
      unfold RbAt at MQ
      rw [hcx] at SZX MQ DOX
      clear hx hr1 hxc he1' HB hd1 hd2 hcx
      go_upto_region 9 with fail
      refine wp_region_planW (fun k => k = p ∨ k = q) [(true, 0), (true, 2), (true, 3), (true, 4), (true, 5), (false, 1), (false, 6), (true, 7), (true, 8), (true, 9), (false, 10), (true, 11)] (by kernel_rfl) (by kernel_rfl) (by intro c a d v w h; cases d <;> exact h) ?_
      intro W1 K1 C1
      (refine wpS_firm rfl (fun K hK => ?_); simp only [Keep]; go_simp; refine hK _ ?_; clear hK K)
      (refine wpS_firm rfl (fun K hK => ?_); simp only [Keep]; go_simp; refine hK _ ?_; clear hK K)
      (refine wpS_firm rfl (fun K hK => ?_); simp only [Keep]; go_simp; refine hK _ ?_; clear hK K)
      (refine wpS_firm rfl (fun K hK => ?_); simp only [Keep]; go_simp; refine hK _ ?_; clear hK K)
      refine wpS_load_mid rfl rfl 44 (.tmp 56) rfl gq (o + k * 6) rfl xc _ (fun x hx => Keep.rng hx R1.out NB.out) Tryz.underlying44 rfl (by rw [CLL.out]; kernel_rfl) ?_
      have L1 := Lib.hid (LL.out.below C1.out)
      refine wpS_chain rfl ?_
      refine wpList_load_row rfl 37 (.tmp 11) rfl q rfl 37 cx.toArray (0, 0) _ (MQ.out _ L1.out) Tryz.underlying37 rfl (by rw [SZX.out]; kernel_rfl) ?_
      go_wp2
      refine ⟨K1.out, ?_⟩
      refine wpS_chain rfl ?_
      go_wp2_with (go_at_call 15; go_loud (refine (DOX.out _ L1.out).mono ?_; rintro e w4 ⟨lv', dvs', lvr', dvr', rfl, a1, a2, a3⟩; have S4 := Lib.hid a1; have P4 := Lib.hid a2; have C4 := Lib.hid a3; have K4 := Lib.hid (K1.out.chgK a3 (fun k hk => .inl (.inl hk))); have SZY := Lib.hid (St.cells_len7 (actS x ca d) lvr' a1.ok.len); have ONY := Lib.hid (St.cells_one (actS x ca d) lvr' (own_one' a2.own)); have Q4 := Lib.hid (a3.blk (MQ.out _ L1.out) (fun e => NPQ.out (Eq.symm e))); clear a1 a2 a3; obtain ⟨cy, hcy⟩ : ∃ z, (actS x ca d).cells lvr' = z := ⟨_, rfl⟩; have HCY := Lib.hid hcy; rw [hcy] at SZY ONY ⊢; clear hcy))
      refine ⟨K4.out, ?_⟩
      (refine wpS_firm rfl (fun K hK => ?_); simp only [Keep]; go_simp; refine hK _ ?_; clear hK K)
      (refine wpS_firm rfl (fun K hK => ?_); simp only [Keep]; go_simp; refine hK _ ?_; clear hK K)
      (refine wpS_firm rfl (fun K hK => ?_); simp only [Keep]; go_simp; refine hK _ ?_; clear hK K)
      refine wpS_chain rfl ?_
      refine wpList_store_rowC rfl 37 (.tmp 11) (.tmp 59) rfl q cy.toArray rfl rfl 37 _ Q4.out (by rw [SZY.out]; kernel_rfl) (by rw [SZY.out, SZX.out]) ONY.out ?_
      intro w5 h5 hc
      have C5 := Lib.hid hc
      have K5 := Lib.hid (K4.out.chgK hc (fun k hk => .inl (.inr hk)))
      have L5 := Lib.hid (L1.out.next PL.out QL.out S4.out P4.out C4.out (by rw [HCY.out]; exact h5) hc)
      clear h5 hc
      go_wp2
      refine ⟨K5.out, ?_⟩
      (refine wpS_firm rfl (fun K hK => ?_); simp only [Keep]; go_simp; refine hK _ ?_; clear hK K)
      unfold wpS
      go_wp2
      go_roundw
      case rel => exact ⟨k + 1, by omega, by go_num, rfl, Lib.hid ⟨_, _, _, _, _, L5.out⟩⟩
      case measure => simp [intOf]; omega
    · have CPY := Lib.hid (fun W (h : SlAt W p x lv dvs) => Copy_at p x lv dvs W h)
      have SZX := Lib.hid (St.cells_len7 x lvr LL.out.s.ok.len)
      have ONX := Lib.hid (St.cells_one x lvr (own_one' LL.out.r.own))
      have QR := Lib.hid (show wr.heap[q]? = some (.cells (x.cells lvr).toArray 37 (0, 0)) from LL.out.m)
      obtain ⟨cx, hcx⟩ : ∃ c, x.cells lvr = c := ⟨_, rfl⟩
      have HCX := Lib.hid hcx
      rw [hcx] at SZX ONX QR
      have PLT := Lib.hid (show p < wr.heap.size from (Array.getElem?_eq_some_iff.1 LL.out.s.blk).1)
      have QLT := Lib.hid (show q < wr.heap.size from (Array.getElem?_eq_some_iff.1 LL.out.m).1)
      clear hcx L0 BYS1 SV1
      go_upto_region 10 with fail
      refine wp_meet (Facts := fun c qc cv W => Lp w p q x lv lvr dvs dvr W ∧ Lp w c qc x cv lvr dvs dvr W ∧ p ≠ c ∧ q ≠ qc ∧ w.heap.size ≤ c ∧ w.heap.size ≤ qc) ?_
      apply Exists.intro
      apply And.intro
      case left =>
        refine wp_region_planT (fun _ => False) (.firm 0 (.firm 2 (.two 1 (.one 3 (.firm 4 (.one 5 .done))) 3 (.one 1 (.firm 4 (.one 5 .done)))))) (by kernel_rfl) (by kernel_rfl) (by intro c a d v w h; cases d <;> exact h) ?_
        intro W1 K1 C1
        (refine wpT_firm rfl (fun K hK => ?_); simp only [Keep]; go_simp; refine hK _ ?_; clear hK K)
        refine wpT_load_rowN rfl rfl 37 (.tmp 11) rfl q rfl 37 cx.toArray (0, 0) _ (fun x hx => Keep.blkB hx QR.out (by intro h; exact h)) Tryz.underlying37 rfl (by rw [SZX.out]; kernel_rfl) ?_
        refine wpT_two rfl rfl ?_ ?_
        · go_wp2_with (go_at_call 26; go_loud (refine (CPY.out _ (LL.out.s.below C1.out)).mono ?_; rintro e w5 ⟨c2, cv, rfl, hc, hcl, hw⟩; have DC := Lib.hid hc; have CL := Lib.hid (Nat.le_trans C1.out.size hcl); have C5 := Lib.hid (gr_tr C1.out hw); have K5 := Lib.hid (K1.out.below hw); clear hc hcl hw))
          refine ⟨K5.out, ?_⟩
          refine wpT_chain rfl ?_
          go_wp2
          refine ⟨K5.out.alloc _, ?_⟩
          have QN := Lib.hid (heap_alloc_new w5 (.cells #[.int .i64 0, .bool false, .string ⟨#[]⟩, .int .i64 0, .int .i64 0, .int .i64 0, .string ⟨#[]⟩, .string ⟨#[]⟩, .string ⟨#[]⟩, .string ⟨#[]⟩, .string ⟨#[]⟩, .string ⟨#[]⟩, .string ⟨#[]⟩, .slice none 0 0] 37))
          have C6 := Lib.hid (gr_tr C5.out (gr_alloc w5 (.cells #[.int .i64 0, .bool false, .string ⟨#[]⟩, .int .i64 0, .int .i64 0, .int .i64 0, .string ⟨#[]⟩, .string ⟨#[]⟩, .string ⟨#[]⟩, .string ⟨#[]⟩, .string ⟨#[]⟩, .string ⟨#[]⟩, .string ⟨#[]⟩, .slice none 0 0] 37)))
          have K6 := Lib.hid (K5.out.alloc (.cells #[.int .i64 0, .bool false, .string ⟨#[]⟩, .int .i64 0, .int .i64 0, .int .i64 0, .string ⟨#[]⟩, .string ⟨#[]⟩, .string ⟨#[]⟩, .string ⟨#[]⟩, .string ⟨#[]⟩, .string ⟨#[]⟩, .string ⟨#[]⟩, .slice none 0 0] 37))
          have D6 := Lib.hid (DC.out.below (gr_alloc w5 (.cells #[.int .i64 0, .bool false, .string ⟨#[]⟩, .int .i64 0, .int .i64 0, .int .i64 0, .string ⟨#[]⟩, .string ⟨#[]⟩, .string ⟨#[]⟩, .string ⟨#[]⟩, .string ⟨#[]⟩, .string ⟨#[]⟩, .string ⟨#[]⟩, .slice none 0 0] 37)))
          have QCL := Lib.hid (C5.out.size)
          obtain ⟨qc, hqc⟩ : ∃ y, w5.heap.size = y := ⟨_, rfl⟩
          obtain ⟨w6, hw6⟩ : ∃ y, y = w5.alloc (.cells #[.int .i64 0, .bool false, .string ⟨#[]⟩, .int .i64 0, .int .i64 0, .int .i64 0, .string ⟨#[]⟩, .string ⟨#[]⟩, .string ⟨#[]⟩, .string ⟨#[]⟩, .string ⟨#[]⟩, .string ⟨#[]⟩, .string ⟨#[]⟩, .slice none 0 0] 37) := ⟨_, rfl⟩
          rw [hqc] at QCL
          rw [← hw6, hqc] at QN
          rw [← hw6] at C6 K6 D6 ⊢
          rw [hqc]
          clear hqc hw6
          (refine wpT_firm rfl (fun K hK => ?_); simp only [Keep]; go_simp; refine hK _ ?_; clear hK K)
          (refine wpT_chain rfl ?_; refine wpList_store_rowC rfl 37 (.tmp 15) (.tmp 63) rfl qc cx.toArray rfl rfl 37 _ QN.out (by rw [SZX.out]; kernel_rfl) (by rw [SZX.out]; rfl) ONX.out ?_; intro w7 h7 hc; have Q7 := Lib.hid h7; have HC7 := Lib.hid hc; have K7 := Lib.hid (K6.out.chgK hc (fun k hk => .inr (by have e' : k = qc := hk; have := QCL.out; omega))); clear h7 hc; go_wp2; refine ⟨K7.out, ?_⟩; unfold wpT; refine Exists.intro c2 (Exists.intro qc (Exists.intro cv (And.intro rfl ?_))); have B7 := C6.out.trans (HC7.out.below (fun k e => by have e' : k = qc := e; have := QCL.out; omega) C6.out.size); have s1 := LL.out.b.size; have s2 := C1.out.size; have s3 := CL.out; have s4 := PLT.out; have s5 := QLT.out; have s6 := QCL.out; exact ⟨LL.out.below B7, ⟨D6.out.set QN.out (by decide) (by decide) (by decide) HC7.out, LL.out.r.below B7, by (show _ = _; rw [HCX.out]; exact Q7.out), gr_tr LL.out.b B7⟩, by omega, by omega, by omega, by omega⟩)
        · go_wp2
          refine ⟨K1.out.alloc _, ?_⟩
          have QN := Lib.hid (heap_alloc_new W1 (.cells #[.int .i64 0, .bool false, .string ⟨#[]⟩, .int .i64 0, .int .i64 0, .int .i64 0, .string ⟨#[]⟩, .string ⟨#[]⟩, .string ⟨#[]⟩, .string ⟨#[]⟩, .string ⟨#[]⟩, .string ⟨#[]⟩, .string ⟨#[]⟩, .slice none 0 0] 37))
          have C5 := Lib.hid (gr_tr C1.out (gr_alloc W1 (.cells #[.int .i64 0, .bool false, .string ⟨#[]⟩, .int .i64 0, .int .i64 0, .int .i64 0, .string ⟨#[]⟩, .string ⟨#[]⟩, .string ⟨#[]⟩, .string ⟨#[]⟩, .string ⟨#[]⟩, .string ⟨#[]⟩, .string ⟨#[]⟩, .slice none 0 0] 37)))
          have K5 := Lib.hid (K1.out.alloc (.cells #[.int .i64 0, .bool false, .string ⟨#[]⟩, .int .i64 0, .int .i64 0, .int .i64 0, .string ⟨#[]⟩, .string ⟨#[]⟩, .string ⟨#[]⟩, .string ⟨#[]⟩, .string ⟨#[]⟩, .string ⟨#[]⟩, .string ⟨#[]⟩, .slice none 0 0] 37))
          have QCL := Lib.hid (C1.out.size)
          obtain ⟨qc, hqc⟩ : ∃ y, W1.heap.size = y := ⟨_, rfl⟩
          obtain ⟨w5, hw5⟩ : ∃ y, y = W1.alloc (.cells #[.int .i64 0, .bool false, .string ⟨#[]⟩, .int .i64 0, .int .i64 0, .int .i64 0, .string ⟨#[]⟩, .string ⟨#[]⟩, .string ⟨#[]⟩, .string ⟨#[]⟩, .string ⟨#[]⟩, .string ⟨#[]⟩, .string ⟨#[]⟩, .slice none 0 0] 37) := ⟨_, rfl⟩
          rw [hqc] at QCL
          rw [← hw5, hqc] at QN
          rw [← hw5] at C5 K5 ⊢
          rw [hqc]
          clear hqc hw5
          refine wpT_chain rfl ?_
          go_wp2_with (go_at_call 26; go_loud (refine (CPY.out _ (LL.out.s.below C5.out)).mono ?_; rintro e w6 ⟨c2, cv, rfl, hc, hcl, hw⟩; have D6 := Lib.hid hc; have CL := Lib.hid (Nat.le_trans C5.out.size hcl); have C6 := Lib.hid (gr_tr C5.out hw); have K6 := Lib.hid (K5.out.below hw); replace QN := Lib.hid (blk_below QN.out hw); clear hc hcl hw))
          refine ⟨K6.out, ?_⟩
          (refine wpT_firm rfl (fun K hK => ?_); simp only [Keep]; go_simp; refine hK _ ?_; clear hK K)
          (refine wpT_chain rfl ?_; refine wpList_store_rowC rfl 37 (.tmp 15) (.tmp 63) rfl qc cx.toArray rfl rfl 37 _ QN.out (by rw [SZX.out]; kernel_rfl) (by rw [SZX.out]; rfl) ONX.out ?_; intro w7 h7 hc; have Q7 := Lib.hid h7; have HC7 := Lib.hid hc; have K7 := Lib.hid (K6.out.chgK hc (fun k hk => .inr (by have e' : k = qc := hk; have := QCL.out; omega))); clear h7 hc; go_wp2; refine ⟨K7.out, ?_⟩; unfold wpT; refine Exists.intro c2 (Exists.intro qc (Exists.intro cv (And.intro rfl ?_))); have B7 := C6.out.trans (HC7.out.below (fun k e => by have e' : k = qc := e; have := QCL.out; omega) C6.out.size); have s1 := LL.out.b.size; have s2 := C1.out.size; have s3 := CL.out; have s4 := PLT.out; have s5 := QLT.out; have s6 := QCL.out; exact ⟨LL.out.below B7, ⟨D6.out.set QN.out (by decide) (by decide) (by decide) HC7.out, LL.out.r.below B7, by (show _ = _; rw [HCX.out]; exact Q7.out), gr_tr LL.out.b B7⟩, by omega, by omega, by omega, by omega⟩)
      case right =>
        rintro c2 qc cv wf ⟨f1, f2, f3, f4, f5, f6⟩
        have LP := Lib.hid f1; have LC := Lib.hid f2; have NPC := Lib.hid f3; have NQQ := Lib.hid f4; have PLc := Lib.hid f5; have QLc := Lib.hid f6
        have AGR := Lib.hid (fun W (h : Below wf.heap.size wf W) => agrees_at c2 x cv lvr dvs dvr W (f2.s.below h) (f2.r.below h))
        have QC := Lib.hid (show wf.heap[qc]? = some (.cells cx.toArray 37 (0, 0)) by rw [← HCX.out]; exact f2.m)
        rw [HCX.out] at AGR
        clear f1 f2 f3 f4 f5 f6 CPY QR QLT PLT LL hlt HCX
        go_upto_region 14 with (first
          | (refine wpList_unguard (by rfl) (wpList_load_row rfl 37 (.tmp 15) rfl qc rfl 37 cx.toArray (0, 0) _ QC.out Tryz.underlying37 rfl (by rw [SZX.out]; kernel_rfl) ?_))
          | (go_at_call 27; go_loud (refine (AGR.out _ (Below.refl _ _)).mono ?_; rintro e wg ⟨rfl, hw⟩; replace LP := Lib.hid (LP.out.below hw); replace LC := Lib.hid (LC.out.below hw); clear hw)))
        clear AGR QC
        go_loopw [12, 16] (fun f i wr => ∃ (k : Nat), k ≤ n2 + n3 ∧ i = .int .i64 k ∧ f = .bool true ∧ Hid (Sd w p q wr) ∧ Hid (Sd w c2 qc wr)) (fun _ i _ => n2 + n3 - (intOf i).toNat)
        case atStart => exact ⟨0, by omega, rfl, rfl, Lib.hid ⟨_, _, _, _, _, LP.out⟩, Lib.hid ⟨_, _, _, _, _, LC.out⟩⟩
        case round =>
          clear LP LC SZX ONX HN1
          obtain ⟨k, hk, rfl, rfl, SP, SC⟩ := hrel
          by_cases h2 : k < n2
          · by_cases h3 : k < n3
            · obtain ⟨x, lv, lvr, dvs, dvr, hLL⟩ := SP.out
              have LL := Lib.hid hLL
              clear hLL
              obtain ⟨xo, lvo, lvro, dvso, dvro, hLO⟩ := SC.out
              have LO := Lib.hid hLO
              clear hLO SP SC
              obtain ⟨ca, hx⟩ : ∃ x, ys[k]? = some x := ⟨_, List.getElem?_eq_getElem (by rw [HN2.out]; exact h2)⟩
              obtain ⟨gq, o, cq, he1, hr1⟩ := SliceV.rng Cl.cells_len SV2.out k ca hx (by decide)
              injection he1 with he1 he1' he1''
              subst he1; subst he1''
              have GL := Lib.hid (show gq < w.heap.size from World.block_lt_of_cell? w ⟨gq, o + k * 6 + 0, none⟩ (hr1 0 _ rfl))
              have R1 := Lib.hid (rng_below hr1 LL.out.b)
              have HB := BYS2.out ca (List.mem_of_getElem? hx)
              obtain ⟨d, hd1, hd2⟩ := HB.2
              have DOX := Lib.hid (fun w' (h : Lp w p q x lv lvr dvs dvr w') => do_at p x lv lvr dvs dvr ca d w' h.s h.r w HB.1 hd1 PL.out h.b hd2)
              have CLL := Lib.hid (Cl.cells_len ca)
              have SZX := Lib.hid (St.cells_len7 x lvr LL.out.s.ok.len)
              have MQ := Lib.hid (fun w' (h : Lp w p q x lv lvr dvs dvr w') => h.m)
              have NPQ := Lib.hid (show p ≠ q from fun e => by
                have h1 := LL.out.s.blk; have h2 := LL.out.m
                unfold RbAt at h2
                rw [e, h2] at h1
                injection h1 with h1; injection h1 with _ h1 _
                exact absurd h1 (by decide))
              have NB := Lib.hid (show ¬ (gq = p ∨ gq = q) from fun hB => by have := GL.out; have := PL.out; have := QL.out; omega)
              obtain ⟨xc, hxc⟩ : ∃ c, ca.cells = c := ⟨_, rfl⟩
              rw [hxc] at R1 CLL DOX
              obtain ⟨cx, hcx⟩ : ∃ c, x.cells lvr = c := ⟨_, rfl⟩
              unfold RbAt at MQ
              rw [hcx] at SZX MQ DOX
              clear hx hr1 hxc he1' HB hd1 hd2 hcx
              go_upto_region 17 with fail
              refine wp_region_planW (fun k => k = p ∨ k = q) [(true, 0), (true, 2), (true, 3), (true, 4), (true, 5), (false, 1), (false, 6), (true, 7), (true, 8), (true, 9), (false, 10), (true, 11)] (by kernel_rfl) (by kernel_rfl) (by intro c a d v w h; cases d <;> exact h) ?_
              intro W1 K1 C1
              (refine wpS_firm rfl (fun K hK => ?_); simp only [Keep]; go_simp; refine hK _ ?_; clear hK K)
              (refine wpS_firm rfl (fun K hK => ?_); simp only [Keep]; go_simp; refine hK _ ?_; clear hK K)
              (refine wpS_firm rfl (fun K hK => ?_); simp only [Keep]; go_simp; refine hK _ ?_; clear hK K)
              (refine wpS_firm rfl (fun K hK => ?_); simp only [Keep]; go_simp; refine hK _ ?_; clear hK K)
              refine wpS_load_mid rfl rfl 44 (.tmp 94) rfl gq (o + k * 6) rfl xc _ (fun x hx => Keep.rng hx R1.out NB.out) Tryz.underlying44 rfl (by rw [CLL.out]; kernel_rfl) ?_
              have L1 := Lib.hid (LL.out.below C1.out)
              refine wpS_chain rfl ?_
              refine wpList_load_row rfl 37 (.tmp 11) rfl q rfl 37 cx.toArray (0, 0) _ (MQ.out _ L1.out) Tryz.underlying37 rfl (by rw [SZX.out]; kernel_rfl) ?_
              go_wp2
              refine ⟨K1.out, ?_⟩
              refine wpS_chain rfl ?_
              go_wp2_with (go_at_call 15; go_loud (refine (DOX.out _ L1.out).mono ?_; rintro e w4 ⟨lv', dvs', lvr', dvr', rfl, a1, a2, a3⟩; have S4 := Lib.hid a1; have P4 := Lib.hid a2; have C4 := Lib.hid a3; have K4 := Lib.hid (K1.out.chgK a3 (fun k hk => .inl (.inl hk))); have SZY := Lib.hid (St.cells_len7 (actS x ca d) lvr' a1.ok.len); have ONY := Lib.hid (St.cells_one (actS x ca d) lvr' (own_one' a2.own)); have Q4 := Lib.hid (a3.blk (MQ.out _ L1.out) (fun e => NPQ.out (Eq.symm e))); clear a1 a2 a3; obtain ⟨cy, hcy⟩ : ∃ z, (actS x ca d).cells lvr' = z := ⟨_, rfl⟩; have HCY := Lib.hid hcy; rw [hcy] at SZY ONY ⊢; clear hcy))
              refine ⟨K4.out, ?_⟩
              (refine wpS_firm rfl (fun K hK => ?_); simp only [Keep]; go_simp; refine hK _ ?_; clear hK K)
              (refine wpS_firm rfl (fun K hK => ?_); simp only [Keep]; go_simp; refine hK _ ?_; clear hK K)
              (refine wpS_firm rfl (fun K hK => ?_); simp only [Keep]; go_simp; refine hK _ ?_; clear hK K)
              refine wpS_chain rfl ?_
              refine wpList_store_rowC rfl 37 (.tmp 11) (.tmp 97) rfl q cy.toArray rfl rfl 37 _ Q4.out (by rw [SZY.out]; kernel_rfl) (by rw [SZY.out, SZX.out]) ONY.out ?_
              intro w5 h5 hc
              have C5 := Lib.hid hc
              have K5 := Lib.hid (K4.out.chgK hc (fun k hk => .inl (.inr hk)))
              have L5 := Lib.hid (L1.out.next PL.out QL.out S4.out P4.out C4.out (by rw [HCY.out]; exact h5) hc)
              clear h5 hc
              go_wp2
              refine ⟨K5.out, ?_⟩
              (refine wpS_firm rfl (fun K hK => ?_); simp only [Keep]; go_simp; refine hK _ ?_; clear hK K)
              unfold wpS
              have SP := Lib.hid (show Sd w p q w5 from ⟨_, _, _, _, _, L5.out⟩)
              have SC := Lib.hid (show Sd w c2 qc w5 from ⟨_, _, _, _, _, (LO.out.below C1.out).other L1.out.s.blk C4.out Q4.out C5.out (fun e => NPC.out e.symm) (fun e => NQQ.out e.symm) PL.out QL.out⟩)
              clear LL LO L1 S4 P4 C4 K4 SZY ONY Q4 HCY C5 K5 L5 K1 C1 DOX CLL SZX MQ NPQ NB R1 GL
              obtain ⟨x, lv, lvr, dvs, dvr, hLL⟩ := SC.out
              have LL := Lib.hid hLL
              clear hLL
              obtain ⟨xo, lvo, lvro, dvso, dvro, hLO⟩ := SP.out
              have LO := Lib.hid hLO
              clear hLO SC SP
              obtain ⟨ca, hx⟩ : ∃ x, zs[k]? = some x := ⟨_, List.getElem?_eq_getElem (by rw [HN3.out]; exact h3)⟩
              obtain ⟨gq, o, cq, he1, hr1⟩ := SliceV.rng Cl.cells_len SV3.out k ca hx (by decide)
              injection he1 with he1 he1' he1''
              subst he1; subst he1''
              have GL := Lib.hid (show gq < w.heap.size from World.block_lt_of_cell? w ⟨gq, o + k * 6 + 0, none⟩ (hr1 0 _ rfl))
              have R1 := Lib.hid (rng_below hr1 LL.out.b)
              have HB := BYS3.out ca (List.mem_of_getElem? hx)
              obtain ⟨d, hd1, hd2⟩ := HB.2
              have DOX := Lib.hid (fun w' (h : Lp w c2 qc x lv lvr dvs dvr w') => do_at c2 x lv lvr dvs dvr ca d w' h.s h.r w HB.1 hd1 PLc.out h.b hd2)
              have CLL := Lib.hid (Cl.cells_len ca)
              have SZX := Lib.hid (St.cells_len7 x lvr LL.out.s.ok.len)
              have MQ := Lib.hid (fun w' (h : Lp w c2 qc x lv lvr dvs dvr w') => h.m)
              have NPQ := Lib.hid (show c2 ≠ qc from fun e => by
                have h1 := LL.out.s.blk; have h2 := LL.out.m
                unfold RbAt at h2
                rw [e, h2] at h1
                injection h1 with h1; injection h1 with _ h1 _
                exact absurd h1 (by decide))
              have NB := Lib.hid (show ¬ (gq = c2 ∨ gq = qc) from fun hB => by have := GL.out; have := PLc.out; have := QLc.out; omega)
              obtain ⟨xc, hxc⟩ : ∃ c, ca.cells = c := ⟨_, rfl⟩
              rw [hxc] at R1 CLL DOX
              obtain ⟨cx, hcx⟩ : ∃ c, x.cells lvr = c := ⟨_, rfl⟩
              unfold RbAt at MQ
              rw [hcx] at SZX MQ DOX
              clear hx hr1 hxc he1' HB hd1 hd2 hcx
              go_upto_region 19 with fail
              refine wp_region_planW (fun k => k = c2 ∨ k = qc) [(true, 0), (true, 2), (true, 3), (true, 4), (true, 5), (false, 1), (false, 6), (true, 7), (true, 8), (true, 9), (false, 10), (true, 11)] (by kernel_rfl) (by kernel_rfl) (by intro c a d v w h; cases d <;> exact h) ?_
              intro W1 K1 C1
              (refine wpS_firm rfl (fun K hK => ?_); simp only [Keep]; go_simp; refine hK _ ?_; clear hK K)
              (refine wpS_firm rfl (fun K hK => ?_); simp only [Keep]; go_simp; refine hK _ ?_; clear hK K)
              (refine wpS_firm rfl (fun K hK => ?_); simp only [Keep]; go_simp; refine hK _ ?_; clear hK K)
              (refine wpS_firm rfl (fun K hK => ?_); simp only [Keep]; go_simp; refine hK _ ?_; clear hK K)
              refine wpS_load_mid rfl rfl 44 (.tmp 111) rfl gq (o + k * 6) rfl xc _ (fun x hx => Keep.rng hx R1.out NB.out) Tryz.underlying44 rfl (by rw [CLL.out]; kernel_rfl) ?_
              have L1 := Lib.hid (LL.out.below C1.out)
              refine wpS_chain rfl ?_
              refine wpList_load_row rfl 37 (.tmp 15) rfl qc rfl 37 cx.toArray (0, 0) _ (MQ.out _ L1.out) Tryz.underlying37 rfl (by rw [SZX.out]; kernel_rfl) ?_
              go_wp2
              refine ⟨K1.out, ?_⟩
              refine wpS_chain rfl ?_
              go_wp2_with (go_at_call 15; go_loud (refine (DOX.out _ L1.out).mono ?_; rintro e w4 ⟨lv', dvs', lvr', dvr', rfl, a1, a2, a3⟩; have S4 := Lib.hid a1; have P4 := Lib.hid a2; have C4 := Lib.hid a3; have K4 := Lib.hid (K1.out.chgK a3 (fun k hk => .inl (.inl hk))); have SZY := Lib.hid (St.cells_len7 (actS x ca d) lvr' a1.ok.len); have ONY := Lib.hid (St.cells_one (actS x ca d) lvr' (own_one' a2.own)); have Q4 := Lib.hid (a3.blk (MQ.out _ L1.out) (fun e => NPQ.out (Eq.symm e))); clear a1 a2 a3; obtain ⟨cy, hcy⟩ : ∃ z, (actS x ca d).cells lvr' = z := ⟨_, rfl⟩; have HCY := Lib.hid hcy; rw [hcy] at SZY ONY ⊢; clear hcy))
              refine ⟨K4.out, ?_⟩
              (refine wpS_firm rfl (fun K hK => ?_); simp only [Keep]; go_simp; refine hK _ ?_; clear hK K)
              (refine wpS_firm rfl (fun K hK => ?_); simp only [Keep]; go_simp; refine hK _ ?_; clear hK K)
              (refine wpS_firm rfl (fun K hK => ?_); simp only [Keep]; go_simp; refine hK _ ?_; clear hK K)
              refine wpS_chain rfl ?_
              refine wpList_store_rowC rfl 37 (.tmp 15) (.tmp 114) rfl qc cy.toArray rfl rfl 37 _ Q4.out (by rw [SZY.out]; kernel_rfl) (by rw [SZY.out, SZX.out]) ONY.out ?_
              intro w5 h5 hc
              have C5 := Lib.hid hc
              have K5 := Lib.hid (K4.out.chgK hc (fun k hk => .inl (.inr hk)))
              have L5 := Lib.hid (L1.out.next PLc.out QLc.out S4.out P4.out C4.out (by rw [HCY.out]; exact h5) hc)
              clear h5 hc
              go_wp2
              refine ⟨K5.out, ?_⟩
              (refine wpS_firm rfl (fun K hK => ?_); simp only [Keep]; go_simp; refine hK _ ?_; clear hK K)
              unfold wpS
              have SC := Lib.hid (show Sd w c2 qc w5 from ⟨_, _, _, _, _, L5.out⟩)
              have SP := Lib.hid (show Sd w p q w5 from ⟨_, _, _, _, _, (LO.out.below C1.out).other L1.out.s.blk C4.out Q4.out C5.out NPC.out NQQ.out PLc.out QLc.out⟩)
              clear LL LO L1 S4 P4 C4 K4 SZY ONY Q4 HCY C5 K5 L5 K1 C1 DOX CLL SZX MQ NPQ NB R1 GL
              go_wp2
              go_roundw
              case rel => exact ⟨k + 1, by omega, by go_num, rfl, SP, SC⟩
              case measure => simp [intOf]; omega
            · obtain ⟨x, lv, lvr, dvs, dvr, hLL⟩ := SP.out
              have LL := Lib.hid hLL
              clear hLL
              obtain ⟨xo, lvo, lvro, dvso, dvro, hLO⟩ := SC.out
              have LO := Lib.hid hLO
              clear hLO SP SC
              obtain ⟨ca, hx⟩ : ∃ x, ys[k]? = some x := ⟨_, List.getElem?_eq_getElem (by rw [HN2.out]; exact h2)⟩
              obtain ⟨gq, o, cq, he1, hr1⟩ := SliceV.rng Cl.cells_len SV2.out k ca hx (by decide)
              injection he1 with he1 he1' he1''
              subst he1; subst he1''
              have GL := Lib.hid (show gq < w.heap.size from World.block_lt_of_cell? w ⟨gq, o + k * 6 + 0, none⟩ (hr1 0 _ rfl))
              have R1 := Lib.hid (rng_below hr1 LL.out.b)
              have HB := BYS2.out ca (List.mem_of_getElem? hx)
              obtain ⟨d, hd1, hd2⟩ := HB.2
              have DOX := Lib.hid (fun w' (h : Lp w p q x lv lvr dvs dvr w') => do_at p x lv lvr dvs dvr ca d w' h.s h.r w HB.1 hd1 PL.out h.b hd2)
              have CLL := Lib.hid (Cl.cells_len ca)
              have SZX := Lib.hid (St.cells_len7 x lvr LL.out.s.ok.len)
              have MQ := Lib.hid (fun w' (h : Lp w p q x lv lvr dvs dvr w') => h.m)
              have NPQ := Lib.hid (show p ≠ q from fun e => by
                have h1 := LL.out.s.blk; have h2 := LL.out.m
                unfold RbAt at h2
                rw [e, h2] at h1
                injection h1 with h1; injection h1 with _ h1 _
                exact absurd h1 (by decide))
              have NB := Lib.hid (show ¬ (gq = p ∨ gq = q) from fun hB => by have := GL.out; have := PL.out; have := QL.out; omega)
              obtain ⟨xc, hxc⟩ : ∃ c, ca.cells = c := ⟨_, rfl⟩
              rw [hxc] at R1 CLL DOX
              obtain ⟨cx, hcx⟩ : ∃ c, x.cells lvr = c := ⟨_, rfl⟩
              unfold RbAt at MQ
              rw [hcx] at SZX MQ DOX
              clear hx hr1 hxc he1' HB hd1 hd2 hcx
              go_upto_region 17 with fail
              refine wp_region_planW (fun k => k = p ∨ k = q) [(true, 0), (true, 2), (true, 3), (true, 4), (true, 5), (false, 1), (false, 6), (true, 7), (true, 8), (true, 9), (false, 10), (true, 11)] (by kernel_rfl) (by kernel_rfl) (by intro c a d v w h; cases d <;> exact h) ?_
              intro W1 K1 C1
              (refine wpS_firm rfl (fun K hK => ?_); simp only [Keep]; go_simp; refine hK _ ?_; clear hK K)
              (refine wpS_firm rfl (fun K hK => ?_); simp only [Keep]; go_simp; refine hK _ ?_; clear hK K)
              (refine wpS_firm rfl (fun K hK => ?_); simp only [Keep]; go_simp; refine hK _ ?_; clear hK K)
              (refine wpS_firm rfl (fun K hK => ?_); simp only [Keep]; go_simp; refine hK _ ?_; clear hK K)
              refine wpS_load_mid rfl rfl 44 (.tmp 94) rfl gq (o + k * 6) rfl xc _ (fun x hx => Keep.rng hx R1.out NB.out) Tryz.underlying44 rfl (by rw [CLL.out]; kernel_rfl) ?_
              have L1 := Lib.hid (LL.out.below C1.out)
              refine wpS_chain rfl ?_
              refine wpList_load_row rfl 37 (.tmp 11) rfl q rfl 37 cx.toArray (0, 0) _ (MQ.out _ L1.out) Tryz.underlying37 rfl (by rw [SZX.out]; kernel_rfl) ?_
              go_wp2
              refine ⟨K1.out, ?_⟩
              refine wpS_chain rfl ?_
              go_wp2_with (go_at_call 15; go_loud (refine (DOX.out _ L1.out).mono ?_; rintro e w4 ⟨lv', dvs', lvr', dvr', rfl, a1, a2, a3⟩; have S4 := Lib.hid a1; have P4 := Lib.hid a2; have C4 := Lib.hid a3; have K4 := Lib.hid (K1.out.chgK a3 (fun k hk => .inl (.inl hk))); have SZY := Lib.hid (St.cells_len7 (actS x ca d) lvr' a1.ok.len); have ONY := Lib.hid (St.cells_one (actS x ca d) lvr' (own_one' a2.own)); have Q4 := Lib.hid (a3.blk (MQ.out _ L1.out) (fun e => NPQ.out (Eq.symm e))); clear a1 a2 a3; obtain ⟨cy, hcy⟩ : ∃ z, (actS x ca d).cells lvr' = z := ⟨_, rfl⟩; have HCY := Lib.hid hcy; rw [hcy] at SZY ONY ⊢; clear hcy))
              refine ⟨K4.out, ?_⟩
              (refine wpS_firm rfl (fun K hK => ?_); simp only [Keep]; go_simp; refine hK _ ?_; clear hK K)
              (refine wpS_firm rfl (fun K hK => ?_); simp only [Keep]; go_simp; refine hK _ ?_; clear hK K)
              (refine wpS_firm rfl (fun K hK => ?_); simp only [Keep]; go_simp; refine hK _ ?_; clear hK K)
              refine wpS_chain rfl ?_
              refine wpList_store_rowC rfl 37 (.tmp 11) (.tmp 97) rfl q cy.toArray rfl rfl 37 _ Q4.out (by rw [SZY.out]; kernel_rfl) (by rw [SZY.out, SZX.out]) ONY.out ?_
              intro w5 h5 hc
              have C5 := Lib.hid hc
              have K5 := Lib.hid (K4.out.chgK hc (fun k hk => .inl (.inr hk)))
              have L5 := Lib.hid (L1.out.next PL.out QL.out S4.out P4.out C4.out (by rw [HCY.out]; exact h5) hc)
              clear h5 hc
              go_wp2
              refine ⟨K5.out, ?_⟩
              (refine wpS_firm rfl (fun K hK => ?_); simp only [Keep]; go_simp; refine hK _ ?_; clear hK K)
              unfold wpS
              have SP := Lib.hid (show Sd w p q w5 from ⟨_, _, _, _, _, L5.out⟩)
              have SC := Lib.hid (show Sd w c2 qc w5 from ⟨_, _, _, _, _, (LO.out.below C1.out).other L1.out.s.blk C4.out Q4.out C5.out (fun e => NPC.out e.symm) (fun e => NQQ.out e.symm) PL.out QL.out⟩)
              clear LL LO L1 S4 P4 C4 K4 SZY ONY Q4 HCY C5 K5 L5 K1 C1 DOX CLL SZX MQ NPQ NB R1 GL
              go_wp2
              go_roundw
              case rel => exact ⟨k + 1, by omega, by go_num, rfl, SP, SC⟩
              case measure => simp [intOf]; omega
          · by_cases h3 : k < n3
            · obtain ⟨x, lv, lvr, dvs, dvr, hLL⟩ := SC.out
              have LL := Lib.hid hLL
              clear hLL
              obtain ⟨xo, lvo, lvro, dvso, dvro, hLO⟩ := SP.out
              have LO := Lib.hid hLO
              clear hLO SC SP
              obtain ⟨ca, hx⟩ : ∃ x, zs[k]? = some x := ⟨_, List.getElem?_eq_getElem (by rw [HN3.out]; exact h3)⟩
              obtain ⟨gq, o, cq, he1, hr1⟩ := SliceV.rng Cl.cells_len SV3.out k ca hx (by decide)
              injection he1 with he1 he1' he1''
              subst he1; subst he1''
              have GL := Lib.hid (show gq < w.heap.size from World.block_lt_of_cell? w ⟨gq, o + k * 6 + 0, none⟩ (hr1 0 _ rfl))
              have R1 := Lib.hid (rng_below hr1 LL.out.b)
              have HB := BYS3.out ca (List.mem_of_getElem? hx)
              obtain ⟨d, hd1, hd2⟩ := HB.2
              have DOX := Lib.hid (fun w' (h : Lp w c2 qc x lv lvr dvs dvr w') => do_at c2 x lv lvr dvs dvr ca d w' h.s h.r w HB.1 hd1 PLc.out h.b hd2)
              have CLL := Lib.hid (Cl.cells_len ca)
              have SZX := Lib.hid (St.cells_len7 x lvr LL.out.s.ok.len)
              have MQ := Lib.hid (fun w' (h : Lp w c2 qc x lv lvr dvs dvr w') => h.m)
              have NPQ := Lib.hid (show c2 ≠ qc from fun e => by
                have h1 := LL.out.s.blk; have h2 := LL.out.m
                unfold RbAt at h2
                rw [e, h2] at h1
                injection h1 with h1; injection h1 with _ h1 _
                exact absurd h1 (by decide))
              have NB := Lib.hid (show ¬ (gq = c2 ∨ gq = qc) from fun hB => by have := GL.out; have := PLc.out; have := QLc.out; omega)
              obtain ⟨xc, hxc⟩ : ∃ c, ca.cells = c := ⟨_, rfl⟩
              rw [hxc] at R1 CLL DOX
              obtain ⟨cx, hcx⟩ : ∃ c, x.cells lvr = c := ⟨_, rfl⟩
              unfold RbAt at MQ
              rw [hcx] at SZX MQ DOX
              clear hx hr1 hxc he1' HB hd1 hd2 hcx
              go_upto_region 19 with fail
              refine wp_region_planW (fun k => k = c2 ∨ k = qc) [(true, 0), (true, 2), (true, 3), (true, 4), (true, 5), (false, 1), (false, 6), (true, 7), (true, 8), (true, 9), (false, 10), (true, 11)] (by kernel_rfl) (by kernel_rfl) (by intro c a d v w h; cases d <;> exact h) ?_
              intro W1 K1 C1
              (refine wpS_firm rfl (fun K hK => ?_); simp only [Keep]; go_simp; refine hK _ ?_; clear hK K)
              (refine wpS_firm rfl (fun K hK => ?_); simp only [Keep]; go_simp; refine hK _ ?_; clear hK K)
              (refine wpS_firm rfl (fun K hK => ?_); simp only [Keep]; go_simp; refine hK _ ?_; clear hK K)
              (refine wpS_firm rfl (fun K hK => ?_); simp only [Keep]; go_simp; refine hK _ ?_; clear hK K)
              refine wpS_load_mid rfl rfl 44 (.tmp 111) rfl gq (o + k * 6) rfl xc _ (fun x hx => Keep.rng hx R1.out NB.out) Tryz.underlying44 rfl (by rw [CLL.out]; kernel_rfl) ?_
              have L1 := Lib.hid (LL.out.below C1.out)
              refine wpS_chain rfl ?_
              refine wpList_load_row rfl 37 (.tmp 15) rfl qc rfl 37 cx.toArray (0, 0) _ (MQ.out _ L1.out) Tryz.underlying37 rfl (by rw [SZX.out]; kernel_rfl) ?_
              go_wp2
              refine ⟨K1.out, ?_⟩
              refine wpS_chain rfl ?_
              go_wp2_with (go_at_call 15; go_loud (refine (DOX.out _ L1.out).mono ?_; rintro e w4 ⟨lv', dvs', lvr', dvr', rfl, a1, a2, a3⟩; have S4 := Lib.hid a1; have P4 := Lib.hid a2; have C4 := Lib.hid a3; have K4 := Lib.hid (K1.out.chgK a3 (fun k hk => .inl (.inl hk))); have SZY := Lib.hid (St.cells_len7 (actS x ca d) lvr' a1.ok.len); have ONY := Lib.hid (St.cells_one (actS x ca d) lvr' (own_one' a2.own)); have Q4 := Lib.hid (a3.blk (MQ.out _ L1.out) (fun e => NPQ.out (Eq.symm e))); clear a1 a2 a3; obtain ⟨cy, hcy⟩ : ∃ z, (actS x ca d).cells lvr' = z := ⟨_, rfl⟩; have HCY := Lib.hid hcy; rw [hcy] at SZY ONY ⊢; clear hcy))
              refine ⟨K4.out, ?_⟩
              (refine wpS_firm rfl (fun K hK => ?_); simp only [Keep]; go_simp; refine hK _ ?_; clear hK K)
              (refine wpS_firm rfl (fun K hK => ?_); simp only [Keep]; go_simp; refine hK _ ?_; clear hK K)
              (refine wpS_firm rfl (fun K hK => ?_); simp only [Keep]; go_simp; refine hK _ ?_; clear hK K)
              refine wpS_chain rfl ?_
              refine wpList_store_rowC rfl 37 (.tmp 15) (.tmp 114) rfl qc cy.toArray rfl rfl 37 _ Q4.out (by rw [SZY.out]; kernel_rfl) (by rw [SZY.out, SZX.out]) ONY.out ?_
              intro w5 h5 hc
              have C5 := Lib.hid hc
              have K5 := Lib.hid (K4.out.chgK hc (fun k hk => .inl (.inr hk)))
              have L5 := Lib.hid (L1.out.next PLc.out QLc.out S4.out P4.out C4.out (by rw [HCY.out]; exact h5) hc)
              clear h5 hc
              go_wp2
              refine ⟨K5.out, ?_⟩
              (refine wpS_firm rfl (fun K hK => ?_); simp only [Keep]; go_simp; refine hK _ ?_; clear hK K)
              unfold wpS
              have SC := Lib.hid (show Sd w c2 qc w5 from ⟨_, _, _, _, _, L5.out⟩)
              have SP := Lib.hid (show Sd w p q w5 from ⟨_, _, _, _, _, (LO.out.below C1.out).other L1.out.s.blk C4.out Q4.out C5.out NPC.out NQQ.out PLc.out QLc.out⟩)
              clear LL LO L1 S4 P4 C4 K4 SZY ONY Q4 HCY C5 K5 L5 K1 C1 DOX CLL SZX MQ NPQ NB R1 GL
              go_wp2
              go_roundw
              case rel => exact ⟨k + 1, by omega, by go_num, rfl, SP, SC⟩
              case measure => simp [intOf]; omega
            · obtain ⟨x, lv, lvr, dvs, dvr, hLL⟩ := SP.out
              have LL := Lib.hid hLL
              obtain ⟨x2, lv2, lvr2, dvs2, dvr2, hL2⟩ := SC.out
              have L2 := Lib.hid hL2
              have AG1 := Lib.hid (fun W (h : Below wr.heap.size wr W) => agrees_at p x lv lvr dvs dvr W (hLL.s.below h) (hLL.r.below h))
              have AG2 := Lib.hid (fun W (h : Below wr.heap.size wr W) => agrees_at c2 x2 lv2 lvr2 dvs2 dvr2 W (hL2.s.below h) (hL2.r.below h))
              have Q1 := Lib.hid (show wr.heap[q]? = some (.cells (x.cells lvr).toArray 37 (0, 0)) from hLL.m)
              have Q2 := Lib.hid (show wr.heap[qc]? = some (.cells (x2.cells lvr2).toArray 37 (0, 0)) from hL2.m)
              have Z1 := Lib.hid (St.cells_len7 x lvr hLL.s.ok.len)
              have Z2 := Lib.hid (St.cells_len7 x2 lvr2 hL2.s.ok.len)
              obtain ⟨cx, hcx⟩ : ∃ c, x.cells lvr = c := ⟨_, rfl⟩
              rw [hcx] at AG1 Q1 Z1
              obtain ⟨cx2, hcx2⟩ : ∃ c, x2.cells lvr2 = c := ⟨_, rfl⟩
              rw [hcx2] at AG2 Q2 Z2
              have E := Lib.hid (Below.refl wr.heap.size wr)
              have B0 := Lib.hid hLL.b
              clear hLL hL2 LL L2 SP SC hcx hcx2
              go_upto_region 22 with fail
              go_wp2_with (first
                | (refine wpList_load_row rfl 37 (.tmp 11) rfl q rfl 37 cx.toArray (0, 0) _ Q1.out Tryz.underlying37 rfl (by rw [Z1.out]; kernel_rfl) ?_)
                | (refine wpList_unguard (by rfl) (wpList_load_row rfl 37 (.tmp 15) rfl qc rfl 37 cx2.toArray (0, 0) _ (blk_below Q2.out E.out) Tryz.underlying37 rfl (by rw [Z2.out]; kernel_rfl) ?_))
                | (go_at_call 27; (with_reducible refine (AG1.out _ E.out).mono ?_); go_loud (rintro e wg ⟨rfl, hw⟩; replace E := Lib.hid (gr_tr E.out hw); clear hw))
                | (go_at_call 27; (with_reducible refine (AG2.out _ E.out).mono ?_); go_loud (rintro e wh ⟨rfl, hw⟩; replace E := Lib.hid (gr_tr E.out hw); clear hw))
                | (go_at_call 12; go_loud ((with_reducible refine (known_any _).mono ?_); rintro e wk ⟨rfl, hbk⟩; have DK := Lib.hid hbk; clear hbk)))
              go_ret
              exact ⟨rfl, gr_tr (gr_tr B0.out E.out) DK.out⟩
end Go.Proofs.YtabfmhlhdebcpaaGreatDoor
