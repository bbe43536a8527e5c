/- FirmwarePieces: the walk (printed by gen26.py). -/
import Derived.Test.YtabfmhlhdebcpaaGreatDoorFwM5
import Derived.LoopN
namespace Go.Proofs.YtabfmhlhdebcpaaGreatDoor
open Go.RowKit Go.Shelf Fw
set_option linter.unusedVariables false
set_option linter.unusedSimpArgs false
attribute [local go_sem] Oper.semAt_some
/-- The state of the two rounds over the iterator, above the world V0. -/
structure PR (V0 : World) (T K : Nat) (turn n : Int) (ds : List Nat) (W : World) : Prop where
  bel : Below V0.heap.size V0 W
  tb : W.heap[T]? = some (.cells #[.int .i64 turn] 3 (0, 0))
  kb : W.heap[K]? = some (.cells #[.int .i64 n] 3 (0, 0))
  o1 : V0.heap.size ≤ T
  o2 : T < K
  def_ : ∀ D ∈ ds, V0.heap.size ≤ D ∧ D < T ∧ W.heap[D]? = some (.deferred (some []))
theorem PR.grown {V0 W W2 : World} {T K : Nat} {turn n : Int} {ds : List Nat} {row : Option Nat} {B : Nat} (h : PR V0 T K turn n ds W) (hg : W.grownBy W2 row) (hK : K < B) (hr : ∀ r, row = some r → B ≤ r) : PR V0 T K turn n ds W2 := by
  have hT := h.o2
  have h1 := h.o1
  refine ⟨h.bel.grown hg h.bel.size (fun k hk => by have := hr k hk; omega), (hg.block _ (Array.getElem?_eq_some_iff.1 h.tb).1 (fun e => by have := hr _ e.symm; omega)).trans h.tb, (hg.block _ (Array.getElem?_eq_some_iff.1 h.kb).1 (fun e => by have := hr _ e.symm; omega)).trans h.kb, h.o1, h.o2, fun D hD => ?_⟩
  obtain ⟨a, b, c⟩ := h.def_ D hD
  exact ⟨a, b, (hg.block _ (Array.getElem?_eq_some_iff.1 c).1 (fun e => by have := hr _ e.symm; omega)).trans c⟩
theorem PR.setK {V0 W : World} {T K : Nat} {turn n m : Int} {ds : List Nat} (h : PR V0 T K turn n ds W) : PR V0 T K turn m ds (W.setCell ⟨K, 0, none⟩ (.int .i64 m)) := by
  have h1 := h.o1; have h2 := h.o2
  refine ⟨h.bel.setCell (p := ⟨K, 0, none⟩) (by show V0.heap.size ≤ K; omega) _, (heap_setCell_other _ _ _ _ (show T ≠ K by omega)).trans h.tb, heap_setCell_same _ _ _ _ _ _ h.kb, h.o1, h.o2, fun D hD => ?_⟩
  obtain ⟨a, b, c⟩ := h.def_ D hD
  exact ⟨a, b, (heap_setCell_other _ _ _ _ (show D ≠ K by omega)).trans c⟩
theorem PR.start (V0 : World) : PR V0 V0.heap.size (V0.heap.size + 1) 0 0 [] ((V0.alloc (.cells #[.int .i64 0] 3)).alloc (.cells #[.int .i64 0] 3)) := by
  refine ⟨gr_tr (gr_alloc _ _) (gr_alloc _ _), blk_below (heap_alloc_new V0 _) (gr_alloc _ _), ?_, Nat.le_refl _, Nat.lt_succ_self _, fun D hD => by cases hD⟩
  have := heap_alloc_new (V0.alloc (.cells #[.int .i64 0] 3)) (.cells #[.int .i64 0] 3)
  simpa using this
theorem PR.next {V0 W : World} {T K : Nat} {n : Int} {D : Nat} (h : PR V0 T K 0 n [] W) (hD : W.heap[D]? = some (.deferred (some []))) (hK : K < D) : PR V0 W.heap.size (W.heap.size + 1) 1 0 [D] ((W.alloc (.cells #[.int .i64 1] 3)).alloc (.cells #[.int .i64 0] 3)) := by
  have hb : Below W.heap.size W ((W.alloc (.cells #[.int .i64 1] 3)).alloc (.cells #[.int .i64 0] 3)) := gr_tr (gr_alloc _ _) (gr_alloc _ _)
  refine ⟨gr_tr h.bel hb, blk_below (heap_alloc_new W _) (gr_alloc _ _), ?_, h.bel.size, Nat.lt_succ_self _, fun E hE => ?_⟩
  · have := heap_alloc_new (W.alloc (.cells #[.int .i64 1] 3)) (.cells #[.int .i64 0] 3)
    simpa using this
  · obtain rfl := List.mem_singleton.1 hE
    exact ⟨by have := h.o1; have := h.o2; omega, (Array.getElem?_eq_some_iff.1 hD).1, blk_below hD hb⟩
set_option maxHeartbeats 6400000 in
set_option maxRecDepth 20000 in
theorem lawPieces_no (c : Cfg) (v : Value) (many : Int) (w : World) (hc : c.R) (hok : cfgOk c = false) :
    Calls Tryz.prog 7 #[.agg c.cells.toArray, v, .int .i64 many] w fun e w' => e = .returned (.bool true) ∧ Below w.heap.size w w' := by
  have NEW := Lib.hid (fun W => New_no c W hc hok)
  obtain ⟨W, hW⟩ : ∃ W, W = ((w.alloc (.cells c.cells.toArray 23)).alloc (.cells #[.int .i64 many] 3)).alloc (.cells #[.bool false] 4) := ⟨_, rfl⟩
  have D0 := Lib.hid (show Below w.heap.size w W by rw [hW]; exact gr_tr (gr_tr (gr_alloc w _) (gr_alloc _ _)) (gr_alloc _ _))
  have X0 := Lib.hid (show W.heap[w.heap.size]? = some (.cells c.cells.toArray 23 (0, 0)) by rw [hW]; exact blk_below (heap_alloc_new w _) (gr_tr (gr_alloc _ _) (gr_alloc _ _)))
  have M0 := Lib.hid (show W.heap[w.heap.size + 1]? = some (.cells #[.int .i64 many] 3 (0, 0)) by rw [hW, show w.heap.size + 1 = (w.alloc (.cells c.cells.toArray 23)).heap.size by simp]; exact blk_below (heap_alloc_new _ _) (gr_alloc _ _))
  have R0 := Lib.hid (show W.heap[w.heap.size + 2]? = some (.cells #[.bool false] 4 (0, 0)) by rw [hW, show w.heap.size + 2 = ((w.alloc (.cells c.cells.toArray 23)).alloc (.cells #[.int .i64 many] 3)).heap.size by simp]; exact heap_alloc_new _ _)
  have WS := Lib.hid (show W.heap.size = w.heap.size + 3 by rw [hW]; simp)
  have SZ := Lib.hid (show c.cells.toArray.size = 4 from rfl)
  obtain ⟨cc, hcc⟩ : ∃ z, c.cells.toArray = z := ⟨_, rfl⟩
  rw [hcc] at NEW X0 SZ hW ⊢
  have HW := Lib.hid hW
  clear hW hcc hc hok
  refine callsIn_wide.1 (callsIn_of_wp_marks (F := Fence.wide) (n := 8) Tryz.func7 rfl trivial ?_)
  simp only [Tryz.ntmps7, List.size_toArray, List.length_cons, List.length_nil, Nat.reduceAdd, Nat.reduceSub, Array.replicate_succ, Array.replicate_zero, List.push_toArray, List.append_toArray, List.nil_append, List.cons_append]
  refine wpIn_wide.2 ?_
  let FT : Exit → Act → World → Prop := bodyPost Tryz.prog Tryz.f7 (fun _ _ => True)
  go_upto_region 1 with fail
  rw [← HW.out]
  clear FT
  go_upto_region 2 with (first
    | (refine wpList_load_row rfl 23 (.tmp 3) rfl w.heap.size rfl 23 cc (0, 0) _ X0.out Tryz.underlying23 rfl (by rw [SZ.out]; kernel_rfl) ?_)
    | (go_at_call 10; go_loud (refine (NEW.out _).mono ?_; rintro e w1 ⟨rfl, hb⟩; have D1 := Lib.hid (gr_tr D0.out hb); have R1 := Lib.hid (blk_below R0.out hb); clear hb)))
  go_wp2_with (go_at_call 12; go_loud ((with_reducible refine (known_any _).mono ?_); rintro e wk ⟨rfl, hbk⟩; have DK := Lib.hid hbk; have RK := Lib.hid (blk_below R1.out hbk); have rk : wk.cell? ⟨w.heap.size + 2, 0, none⟩ = some (.bool false) := (cell_of_row _ _ 0 _ _ _ RK.out).trans rfl; have zk := frozen_of_row _ _ 0 _ _ RK.out; clear hbk))
  exact ⟨.bool true, results_cell1 rfl _ _ (w.heap.size + 2) _ 4 (0, 0) _ rfl (heap_setCell_same _ _ _ _ _ _ RK.out) Tryz.underlying4 rfl, rfl, (gr_tr D1.out DK.out).setCell (p := ⟨w.heap.size + 2, 0, none⟩) (by show w.heap.size ≤ w.heap.size + 2; omega) _⟩
set_option maxHeartbeats 12800000 in
set_option maxRecDepth 20000 in
theorem lawPieces (c : Cfg) (v : Value) (xs : List Cl) (many : Int) (w : World) (hc : c.R) (hv : SliceV w Cl.cells v xs) (hR : ∀ x ∈ xs, Cl.R w x) (hmny : I64 many) :
    Calls Tryz.prog 7 #[.agg c.cells.toArray, v, .int .i64 many] w fun e w' => e = .returned (.bool true) ∧ Below w.heap.size w w' := by
  cases hok : cfgOk c
  · exact lawPieces_no c v many w hc hok
  have NEW := Lib.hid (fun W => New_ok c W hc hok)
  have RNW := Lib.hid (fun W => rNew_at c W)
  have OKN := Lib.hid (Ok.new hok)
  have FEW := Lib.hid (fun W (h : Below w.heap.size w W) => few_le v xs W (SliceV.below hv h) (fun x hx => Cl.R.below (hR x hx) h))
  have SV := Lib.hid hv; have HR := Lib.hid hR
  obtain ⟨a, cp, rfl, -, hm1, hm2, -⟩ := id hv
  obtain ⟨n, hn⟩ : ∃ n, xs.length = n := ⟨_, rfl⟩
  have hmax : n ≤ 9223372036854775807 := by omega
  have HN := Lib.hid hn
  rw [hn] at FEW SV ⊢
  clear hv hR hn hm1 hm2
  obtain ⟨W, hW⟩ : ∃ W, W = ((w.alloc (.cells c.cells.toArray 23)).alloc (.cells #[.int .i64 many] 3)).alloc (.cells #[.bool false] 4) := ⟨_, rfl⟩
  have D0 := Lib.hid (show Below w.heap.size w W by rw [hW]; exact gr_tr (gr_tr (gr_alloc w _) (gr_alloc _ _)) (gr_alloc _ _))
  have X0 := Lib.hid (show W.heap[w.heap.size]? = some (.cells c.cells.toArray 23 (0, 0)) by rw [hW]; exact blk_below (heap_alloc_new w _) (gr_tr (gr_alloc _ _) (gr_alloc _ _)))
  have M0 := Lib.hid (show W.heap[w.heap.size + 1]? = some (.cells #[.int .i64 many] 3 (0, 0)) by rw [hW, show w.heap.size + 1 = (w.alloc (.cells c.cells.toArray 23)).heap.size by simp]; exact blk_below (heap_alloc_new _ _) (gr_alloc _ _))
  have R0 := Lib.hid (show W.heap[w.heap.size + 2]? = some (.cells #[.bool false] 4 (0, 0)) by rw [hW, show w.heap.size + 2 = ((w.alloc (.cells c.cells.toArray 23)).alloc (.cells #[.int .i64 many] 3)).heap.size by simp]; exact heap_alloc_new _ _)
  have WS := Lib.hid (show W.heap.size = w.heap.size + 3 by rw [hW]; simp)
  have SZ := Lib.hid (show c.cells.toArray.size = 4 from rfl)
  obtain ⟨cc, hcc⟩ : ∃ z, c.cells.toArray = z := ⟨_, rfl⟩
  rw [hcc] at NEW RNW X0 SZ hW ⊢
  have HW := Lib.hid hW
  have HCC := Lib.hid hcc
  clear hW hcc hc hok
  refine callsIn_wide.1 (callsIn_of_wp_marks (F := Fence.wide) (n := 8) Tryz.func7 rfl trivial ?_)
  simp only [Tryz.ntmps7, List.size_toArray, List.length_cons, List.length_nil, Nat.reduceAdd, Nat.reduceSub, Array.replicate_succ, Array.replicate_zero, List.push_toArray, List.append_toArray, List.nil_append, List.cons_append]
  refine wpIn_wide.2 ?_
  let FT : Exit → Act → World → Prop := bodyPost Tryz.prog Tryz.f7 (fun _ _ => True)
  go_upto_region 1 with fail
  rw [← HW.out]
  go_upto_region 2 with (first
    | (refine wpList_load_row rfl 23 (.tmp 3) rfl w.heap.size rfl 23 cc (0, 0) _ X0.out Tryz.underlying23 rfl (by rw [SZ.out]; kernel_rfl) ?_)
    | (go_at_call 10; go_loud (refine (NEW.out _).mono ?_; rintro e w1 ⟨p, rfl, hs, hp, hb⟩; have S2 := Lib.hid hs; have PW := Lib.hid (show w.heap.size + 3 ≤ p by rw [← WS.out]; exact hp); have PL := Lib.hid (Nat.le_trans D0.out.size hp); have D2 := Lib.hid (gr_tr D0.out hb); have X2 := Lib.hid (blk_below X0.out hb); have M2 := Lib.hid (blk_below M0.out hb); have R2 := Lib.hid (blk_below R0.out hb); clear hs hp hb)))
  go_upto_region 4 with (first
    | (go_at_call 13; go_loud (refine (FEW.out _ D2.out).mono ?_; rintro e w3 ⟨rfl, z, rfl, h8⟩; have H8 := Lib.hid h8; clear h8; cases z))
    | (go_at_call 12; go_loud ((with_reducible refine (known_any _).mono ?_); rintro e wk ⟨rfl, hbk⟩; have DK := Lib.hid hbk; have RK := Lib.hid (blk_below R2.out hbk); have rk : wk.cell? ⟨w.heap.size + 2, 0, none⟩ = some (.bool false) := (cell_of_row _ _ 0 _ _ _ RK.out).trans rfl; have zk := frozen_of_row _ _ 0 _ _ RK.out; clear hbk)))
  · exact ⟨.bool true, results_cell1 rfl _ _ (w.heap.size + 2) _ 4 (0, 0) _ rfl (heap_setCell_same _ _ _ _ _ _ RK.out) Tryz.underlying4 rfl, rfl, (gr_tr D2.out DK.out).setCell (p := ⟨w.heap.size + 2, 0, none⟩) (by show w.heap.size ≤ w.heap.size + 2; omega) _⟩
  have BYS := Lib.hid (show Bys w xs from fun x hx => ⟨HR.out x hx, Cl.Small.back (HR.out x hx) ((H8.out (by trivial)).2 x hx)⟩)
  have SZN := Lib.hid (St.cells_len7 (Fw.new c) (.slice none 0 0) OKN.out.len)
  have ONN := Lib.hid (St.cells_one (Fw.new c) (.slice none 0 0) rfl)
  go_upto_region 5 with (first
    | (refine wpList_load_row rfl 23 (.tmp 3) rfl w.heap.size rfl 23 cc (0, 0) _ X2.out Tryz.underlying23 rfl (by rw [SZ.out]; kernel_rfl) ?_)
    | (go_at_call 14; go_loud (refine (RNW.out _).mono ?_; rintro e w4 ⟨rfl, hb⟩; have B4 := Lib.hid hb; clear hb))
    | (refine wpList_store_new rfl 37 (.tmp 9) (.tmp 30) rfl (St.cells (Fw.new c) (.slice none 0 0)).toArray 37 _ rfl rfl (by rw [SZN.out]; kernel_rfl) (by rw [SZN.out]; rfl) ONN.out ?_; intro w5 hh hw; have Q5 := Lib.hid hh; have B5 := Lib.hid (gr_tr B4.out hw); clear hh hw))
  have L0 := Lib.hid (show Lp w p w4.heap.size (Fw.new c) (.slice none 0 0) (.slice none 0 0) [] [] w5 from ⟨S2.out.below B5.out, PcsAt.nil _ _, Q5.out, gr_tr D2.out B5.out⟩)
  have QL := Lib.hid (show w.heap.size ≤ w4.heap.size from Nat.le_trans D2.out.size B4.out.size)
  have HQW := Lib.hid (show w.heap.size + 3 ≤ w4.heap.size from Nat.le_trans (by rw [← WS.out]; exact Nat.le_trans (Nat.le_of_lt_succ (by have := (Array.getElem?_eq_some_iff.1 S2.out.blk).1; have := PW.out; rw [WS.out]; omega)) (Nat.le_refl _)) B4.out.size)
  obtain ⟨q, hq⟩ : ∃ x, w4.heap.size = x := ⟨_, rfl⟩
  rw [hq] at L0 QL HQW ⊢
  clear hq Q5 S2
  have QW := Lib.hid (show w.heap.size + 3 ≤ q from HQW.out)
  have M5 := Lib.hid (blk_below M2.out B5.out)
  have R5 := Lib.hid (blk_below R2.out B5.out)
  clear X2 X0 M2 M0 R2 R0 D0 RNW NEW FEW H8 HR B4 B5
  go_wp2
  go_loopw [10] (fun i wr => ∃ (k : Nat) (x : St) (lv lvr : Value) (dvs dvr : List Value), k ≤ n ∧ i = .int .i64 k ∧ Hid (Lp w p q x lv lvr dvs dvr wr) ∧ Hid (wr.heap[w.heap.size + 1]? = some (.cells #[.int .i64 many] 3 (0, 0))) ∧ Hid (wr.heap[w.heap.size + 2]? = some (.cells #[.bool false] 4 (0, 0)))) (fun i _ => n - (intOf i).toNat)
  case atStart => exact ⟨0, _, _, _, _, _, by omega, rfl, L0, M5, R5⟩
  case round =>
    obtain ⟨k, x, lv, lvr, dvs, dvr, hk, rfl, LL, MB, RB⟩ := hrel
    by_cases hlt : k < n
    · obtain ⟨ca, hx⟩ : ∃ x, xs[k]? = some x := ⟨_, List.getElem?_eq_getElem (by rw [HN.out]; exact hlt)⟩
      obtain ⟨gq, o, cq, he1, hr1⟩ := SliceV.rng Cl.cells_len SV.out k ca hx (by decide)
      injection he1 with he1 he1' he1''
      subst he1; subst he1''
      have GL := Lib.hid (show gq < w.heap.size from World.block_lt_of_cell? w ⟨gq, o + k * 6 + 0, none⟩ (hr1 0 _ rfl))
      have R1 := Lib.hid (rng_below hr1 LL.out.b)
      have HB := BYS.out ca (List.mem_of_getElem? hx)
      obtain ⟨d, hd1, hd2⟩ := HB.2
      have DOX := Lib.hid (fun w' (h : Lp w p q x lv lvr dvs dvr w') => do_at p x lv lvr dvs dvr ca d w' h.s h.r w HB.1 hd1 PL.out h.b hd2)
      have CLL := Lib.hid (Cl.cells_len ca)
      have SZX := Lib.hid (St.cells_len7 x lvr LL.out.s.ok.len)
      have MQ := Lib.hid (fun w' (h : Lp w p q x lv lvr dvs dvr w') => h.m)
      have NPQ := Lib.hid (show p ≠ q from fun e => by
        have h1 := LL.out.s.blk; have h2 := LL.out.m
        unfold RbAt at h2
        rw [e, h2] at h1
        injection h1 with h1; injection h1 with _ h1 _
        exact absurd h1 (by decide))
      have NB := Lib.hid (show ¬ (gq = p ∨ gq = q) from fun hB => by have := GL.out; have := PL.out; have := QL.out; omega)
      obtain ⟨xc, hxc⟩ : ∃ c, ca.cells = c := ⟨_, rfl⟩
      rw [hxc] at R1 CLL DOX
      obtain ⟨cx, hcx⟩ : ∃ c, x.cells lvr = c := ⟨_, rfl⟩
      unfold RbAt at MQ
      rw [hcx] at SZX MQ DOX
      clear hx hr1 hxc he1' HB hd1 hd2 hcx
      go_upto_region 8 with fail
      refine wp_calm ?_
      refine wp_region_planW (fun k => k = p ∨ k = q) [(true, 0), (true, 2), (true, 3), (true, 4), (true, 5), (false, 1), (false, 6), (true, 7), (true, 8), (true, 9), (false, 10)] (by kernel_rfl) (by kernel_rfl) (by intro c a d v w h; cases d <;> exact h) ?_
      intro W1 K1 C1
      (refine wpS_firm rfl (fun K hK => ?_); simp only [Keep]; go_simp; refine hK _ ?_; clear hK K)
      (refine wpS_firm rfl (fun K hK => ?_); simp only [Keep]; go_simp; refine hK _ ?_; clear hK K)
      (refine wpS_firm rfl (fun K hK => ?_); simp only [Keep]; go_simp; refine hK _ ?_; clear hK K)
      (refine wpS_firm rfl (fun K hK => ?_); simp only [Keep]; go_simp; refine hK _ ?_; clear hK K)
      refine wpS_load_mid rfl rfl 44 (.tmp 42) rfl gq (o + k * 6) rfl xc _ (fun x hx => Keep.rng hx R1.out NB.out) Tryz.underlying44 rfl (by rw [CLL.out]; kernel_rfl) ?_
      have L1 := Lib.hid (LL.out.below C1.out)
      refine wpS_chain rfl ?_
      refine wpList_load_row rfl 37 (.tmp 9) rfl q rfl 37 cx.toArray (0, 0) _ (MQ.out _ L1.out) Tryz.underlying37 rfl (by rw [SZX.out]; kernel_rfl) ?_
      go_wp2
      refine ⟨K1.out, ?_⟩
      refine wpS_chain rfl ?_
      go_wp2_with (go_at_call 15; go_loud (refine (DOX.out _ L1.out).mono ?_; rintro e w4 ⟨lv', dvs', lvr', dvr', rfl, a1, a2, a3⟩; have S4 := Lib.hid a1; have P4 := Lib.hid a2; have C4 := Lib.hid a3; have K4 := Lib.hid (K1.out.chgK a3 (fun k hk => .inl (.inl hk))); have SZY := Lib.hid (St.cells_len7 (actS x ca d) lvr' a1.ok.len); have ONY := Lib.hid (St.cells_one (actS x ca d) lvr' (own_one' a2.own)); have Q4 := Lib.hid (a3.blk (MQ.out _ L1.out) (fun e => NPQ.out (Eq.symm e))); clear a1 a2 a3; obtain ⟨cy, hcy⟩ : ∃ z, (actS x ca d).cells lvr' = z := ⟨_, rfl⟩; have HCY := Lib.hid hcy; rw [hcy] at SZY ONY ⊢; clear hcy))
      refine ⟨K4.out, ?_⟩
      (refine wpS_firm rfl (fun K hK => ?_); simp only [Keep]; go_simp; refine hK _ ?_; clear hK K)
      (refine wpS_firm rfl (fun K hK => ?_); simp only [Keep]; go_simp; refine hK _ ?_; clear hK K)
      (refine wpS_firm rfl (fun K hK => ?_); simp only [Keep]; go_simp; refine hK _ ?_; clear hK K)
      refine wpS_chain rfl ?_
      refine wpList_store_rowC rfl 37 (.tmp 9) (.tmp 45) rfl q cy.toArray rfl rfl 37 _ Q4.out (by rw [SZY.out]; kernel_rfl) (by rw [SZY.out, SZX.out]) ONY.out ?_
      intro w5 h5 hc
      have C5 := Lib.hid hc
      have K5 := Lib.hid (K4.out.chgK hc (fun k hk => .inl (.inr hk)))
      have L5 := Lib.hid (L1.out.next PL.out QL.out S4.out P4.out C4.out (by rw [HCY.out]; exact h5) hc)
      clear h5 hc
      go_wp2
      refine ⟨K5.out, ?_⟩
      unfold wpS
      go_wp2
      go_roundw
      case rel => exact ⟨k + 1, _, _, _, _, _, by omega, by go_num, L5, Lib.hid (C5.out.blk (C4.out.blk (blk_below MB.out C1.out) (fun e => by have e' : w.heap.size + 1 = p := e; have := PW.out; omega)) (fun e => by have e' : w.heap.size + 1 = q := e; have := QW.out; omega)), Lib.hid (C5.out.blk (C4.out.blk (blk_below RB.out C1.out) (fun e => by have e' : w.heap.size + 2 = p := e; have := PW.out; omega)) (fun e => by have e' : w.heap.size + 2 = q := e; have := QW.out; omega))⟩
      case measure => simp [intOf]; omega
    · clear BYS SV L0 M5 R5
      have PIE := Lib.hid (fun W h => Pieces_at p x lv dvs W h)
      have RST := Lib.hid (fun W h => Reset_at p x lv dvs W h)
      have hfn := fun (b : Nat) w => run_eql_func_nil (P := Tryz.prog) 64 _ Tryz.underlying64 rfl (.func 51) #[] #[.pointer (some ⟨b, 0, none⟩)] w
      go_upto_region 10 with (go_at_call 25; go_loud (refine (PIE.out _ LL.out.s).mono ?_; rintro e w1 ⟨u, rfl, h1, h2, hb⟩; have U1 := Lib.hid h1; have O1 := Lib.hid h2; have B1 := Lib.hid hb; clear h1 h2 hb))
      have PB := Lib.hid (show p < wr.heap.size from (Array.getElem?_eq_some_iff.1 LL.out.s.blk).1)
      obtain ⟨Bs, hBs⟩ : ∃ z, wr.heap.size = z := ⟨_, rfl⟩
      rw [hBs] at U1 O1 PB ⊢
      go_upto_region 13 with (go_at_call 24; go_loud (refine (RST.out _ (LL.out.s.below B1.out)).mono ?_; rintro e V0 ⟨rfl, -, hc⟩; have CH := Lib.hid hc; clear hc))
      have UV := Lib.hid (CH.out.blk U1.out (fun e => by have e' : Bs = p := e; have := PB.out; omega))
      have OV := Lib.hid (own_chg O1.out CH.out (fun k hk e => by have e' : k = p := e; have := (O1.out.lt k hk).1; have := PB.out; omega))
      have MV := Lib.hid (CH.out.blk (blk_below MB.out B1.out) (fun e => by have e' : w.heap.size + 1 = p := e; have := PW.out; omega))
      have RV := Lib.hid (CH.out.blk (blk_below RB.out B1.out) (fun e => by have e' : w.heap.size + 2 = p := e; have := PW.out; omega))
      have QV := Lib.hid (show V0.heap[q]? = some (.cells (x.cells lvr).toArray 37 (0, 0)) from CH.out.blk (blk_below LL.out.m B1.out) (fun e => by
        have e' : q = p := e
        have h1 := LL.out.s.blk; have h2 := LL.out.m
        unfold RbAt at h2
        rw [← e', h2] at h1
        injection h1 with h1; injection h1 with _ h1 _
        exact absurd h1 (by decide)))
      have PV := Lib.hid ((LL.out.r.below B1.out).slot (LL.out.s.below B1.out) (by decide) CH.out)
      have DV := Lib.hid (show Below w.heap.size w V0 from (gr_tr LL.out.b B1.out).trans (CH.out.below (fun k e => by have e' : k = p := e; have := PL.out; omega) (gr_tr LL.out.b B1.out).size))
      have OKX := Lib.hid LL.out.s.ok
      have PCS := Lib.hid LL.out.s.pcs
      clear PIE RST MB RB U1 O1 B1 CH LL hBs PB
      have hz := PCS.out.zlen
      obtain ⟨zs, hzs⟩ : ∃ z, x.ps.zip dvs = z := ⟨_, rfl⟩
      rw [hzs] at hz OV
      obtain ⟨m, hm⟩ : ∃ m, x.ps.length = m := ⟨_, rfl⟩
      have HM := Lib.hid hm
      rw [hm] at hz OV
      have HZ := Lib.hid hz
      have HZS := Lib.hid hzs
      have SU := Lib.hid (show SliceV V0 pcC u zs by
        have h := OV.out
        rw [← HZ.out] at h
        exact SliceV.of_own (f := pcC) (k := 2) (by decide) pcC_len h)
      have OL := Lib.hid (show ∀ k, u.ownBlock = some k → k < V0.heap.size from fun k hk => (OV.out.lt k hk).2)
      have HON := Lib.hid (show ∀ y ∈ zs, ∃ a c, y.2 = .slice a y.1.d.length c from fun y hy => by
        rw [← HZS.out] at hy
        obtain ⟨j, hj⟩ := List.mem_iff_getElem?.1 hy
        obtain ⟨h1, h2⟩ := List.getElem?_zip_eq_some.1 hj
        exact own_shape (PCS.out.el j _ _ h1 h2))
      have M20 := Lib.hid (show m ≤ 1048576 by rw [← hm]; exact OKX.out.sum.2)
      have BL := Lib.hid (show Bs < V0.heap.size from (Array.getElem?_eq_some_iff.1 UV.out).1)
      have QL2 := Lib.hid (show q < V0.heap.size from (Array.getElem?_eq_some_iff.1 QV.out).1)
      have WL := Lib.hid (show w.heap.size + 2 < V0.heap.size from (Array.getElem?_eq_some_iff.1 RV.out).1)
      -- what the reference's list holds at a place
      have ELT := Lib.hid (show ∀ (X : World), Below V0.heap.size V0 X → ∀ (k j : Nat), k < m → j < m → ∃ (aj : Nat) (gq o cq : Nat) (ad : Option Addr) (ln cd : Nat), lvr = .slice (some ⟨gq, o, none⟩) m cq ∧ X.cell? ⟨gq, o + j * 2, none⟩ = some (.int .i64 (aj : Int)) ∧ X.cell? ⟨gq, o + j * 2 + 1, none⟩ = some (.slice ad ln cd) ∧ (k = j → atOf zs k = (aj : Int) ∧ lnOf zs k = (ln : Int)) ∧ (k ≠ j → atOf zs k ≠ (aj : Int)) ∧ ln ≤ 1048576 from fun X hX k j hk hj => by
        obtain ⟨⟨a, pd⟩, hp⟩ : ∃ p : Pc, x.ps[k]? = some p := ⟨_, List.getElem?_eq_getElem (by rw [HM.out]; exact hk)⟩
        obtain ⟨⟨a2, pd2⟩, hp2⟩ : ∃ p : Pc, x.ps[j]? = some p := ⟨_, List.getElem?_eq_getElem (by rw [HM.out]; exact hj)⟩
        obtain ⟨dv, hdv, hz⟩ := PCS.out.get k _ hp
        obtain ⟨dv2, hdv2, hz2⟩ := PV.out.get j _ hp2
        rw [HZS.out] at hz
        have hat : atOf zs k = (a : Int) := by unfold atOf; rw [hz]
        have hln : lnOf zs k = (pd.length : Int) := by unfold lnOf; rw [hz]
        obtain ⟨al, cl, hlv⟩ : ∃ a c, lvr = .slice a m c := by rw [← HM.out]; exact own_shape PV.out.own
        have hsl := SliceV.below PV.out.slice hX
        rw [hlv] at hsl
        obtain ⟨gq, o, cq, he1, hr1⟩ := SliceV.rng pcC_len hsl j _ hz2 (by decide)
        injection he1 with he1 he1' he1''
        subst he1; subst he1''
        obtain ⟨ad, cd, hsd⟩ := own_shape (PV.out.el j ⟨a2, pd2⟩ dv2 hp2 hdv2)
        have hsd : dv2 = .slice ad pd2.length cd := hsd
        refine ⟨a2, gq, o, cl, ad, pd2.length, cd, hlv, by have h := hr1 0 _ rfl; simpa [pcC] using h, by rw [← hsd]; exact hr1 1 _ rfl, fun e => ?_, fun e => ?_, ?_⟩
        · subst e; rw [hp] at hp2; cases hp2; exact ⟨hat, hln⟩
        · rw [hat]
          have hs := OKX.out.sep
          have : a ≠ a2 := by
            rcases Nat.lt_or_gt_of_ne e with h | h
            · have := Sep.lt hs h hp hp2; have h5 := (Sep.at hs hp).2; simp at this h5; omega
            · have := Sep.lt hs h hp2 hp; have h5 := (Sep.at hs hp2).2; simp at this h5; omega
          omega
        · have h1 := OKX.out.top _ (List.mem_of_getElem? hp2)
          have h2 := (cfgOk_is OKX.out.cfg).2.2.2.1
          simp at h1
          omega)
      have LVR := Lib.hid (show ∃ a c, lvr = .slice a m c by rw [← HM.out]; exact own_shape PV.out.own)
      have CPC := Lib.hid (show ∀ X, Below V0.heap.size V0 X → X.cell? ⟨q, 13, none⟩ = some lvr from fun X hX => RbAt.cpc (blk_below QV.out hX) OKX.out.len)
      clear hz hzs hm PCS PV HZS OKN ONN SZN SZ HCC
      have R0 := Lib.hid (PR.start V0)
      go_wp2
      refine wp_loop_rounds 3 ?_
      rw [rounds_succ]
      go_wp2
      obtain ⟨W2, hW2⟩ : ∃ X, X = ((V0.alloc (.cells #[.int .i64 0] 3)).alloc (.cells #[.int .i64 0] 3)) := ⟨_, rfl⟩
      rw [← hW2]
      have RS := Lib.hid (show PR V0 V0.heap.size (V0.heap.size + 1) 0 0 [] W2 by rw [hW2]; exact R0.out)
      have KLT := Lib.hid (show V0.heap.size + 1 < W2.heap.size by rw [hW2]; simp)
      clear R0 hW2
      obtain ⟨K, hK⟩ : ∃ K, V0.heap.size + 1 = K := ⟨_, rfl⟩
      rw [hK] at RS KLT ⊢
      obtain ⟨T, hT⟩ : ∃ T, V0.heap.size = T := ⟨_, rfl⟩
      have HT := Lib.hid hT
      have RS := Lib.hid (show PR V0 T K 0 0 [] W2 by rw [← hT]; exact RS.out)
      rw [hT]
      clear hK hT
      have BW := Lib.hid (show Below V0.heap.size V0 W2 from RS.out.bel)
      refine (wpIn_wide (n := 8)).1 ?_
      refine rf_join (F := Fence.wide) (n := 8) rfl (by omega) (gf := 51) (lb := #[.pointer (some ⟨Bs, 0, none⟩)]) rfl trivial (enters_of Tryz.func51 (by kernel_rfl) rfl)
        (Pieces_stops 7 (by omega) m u zs Bs W2 (Nat.lt_of_lt_of_le BL.out BW.out.size) (blk_below UV.out BW.out) (SliceV.below SU.out BW.out) HZ.out M20.out (fun k hk => Nat.lt_of_lt_of_le (OL.out k hk) BW.out.size) HON.out)
        (fun h1 h2 k hk => (h2 k hk).trans (h1 k hk)) (fun W1 l o o' hl _ _ _ k hk => World.putObj_heap_other (by have := OL.out k hk; have := BW.out.size; omega)) (Below.refl _ _) (fun _ => rfl)
        (fun pre X => PR V0 T K 0 (pre.length : Int) [] X ∧ pre.map (·.val) = List.range pre.length ∧ (pre = [] ∨ (pre.length : Int) < many))
        (fun pre X => PR V0 T K 0 (pre.length : Int) [] X ∧ many ≤ pre.length ∧ (pre.length = 1 ∨ (pre.length : Int) - 1 < many) ∧ 1 ≤ pre.length ∧ pre.length ≤ m)
        (fun X => ∃ k : Nat, min (m : Int) (max 1 many) = (k : Int) ∧ k ≤ 1048576 ∧ PR V0 T K 0 (k : Int) [] X)
        (fun s A B row hs hg hr => ⟨hs.1.grown hg KLT.out (fun r e => (hr r e).1), hs.2⟩)
        (fun s A B row hs hg hr => ⟨hs.1.grown hg KLT.out (fun r e => (hr r e).1), hs.2⟩)
        ⟨RS.out, rfl, .inl rfl⟩ ?ab0 ?done0 ?stop0 ?go0
      case ab0 =>
        apply Exists.intro
        apply And.intro
        case left =>
          rintro l y X K hK
          gi_wp2
          exact hK
        case right =>
          rintro l pre ⟨k, hkm⟩ X ⟨hR, hpre, hmany⟩ hlt
          have RR := Lib.hid hR; have PRE := Lib.hid hpre; have MANY := Lib.hid hmany
          obtain ⟨j, hj⟩ : ∃ j, pre.length = j := ⟨_, rfl⟩
          have HJ := Lib.hid hj
          rw [hj] at RR hlt MANY
          obtain ⟨aj, gq, o, cq, ad, ln, cd, hlv, e0, e1, hin, hout, hln⟩ := ELT.out X RR.out.bel k j hkm hlt
          have c1 : X.cell? ⟨w.heap.size + 1, 0, none⟩ = some (.int .i64 many) := (cell_of_row _ _ 0 _ _ _ (blk_below MV.out RR.out.bel)).trans rfl
          have r1 : X.cell? ⟨w.heap.size + 2, 0, none⟩ = some (.bool false) := (cell_of_row _ _ 0 _ _ _ (blk_below RV.out RR.out.bel)).trans rfl
          have c13 : X.cell? ⟨q, 13, none⟩ = some (.slice (some ⟨gq, o, none⟩) m cq) := by rw [← hlv]; exact CPC.out X RR.out.bel
          have ct : X.cell? ⟨T, 0, none⟩ = some (.int .i64 0) := (cell_of_row _ _ 0 _ _ _ RR.out.tb).trans rfl
          have ck : X.cell? ⟨K, 0, none⟩ = some (.int .i64 (j : Int)) := (cell_of_row _ _ 0 _ _ _ RR.out.kb).trans rfl
          have zr := frozen_of_row _ _ 0 _ _ (blk_below RV.out RR.out.bel)
          have zk := frozen_of_row _ _ 0 _ _ RR.out.kb
          have hm20 := M20.out
          have HIN := Lib.hid hin; have HOUT := Lib.hid hout
          show Code.wpIn _ _ _ _ _ _ _
          have n1 : (T = K) = False := eq_false (by have := RR.out.o2; omega)
          have n2 : (K = T) = False := eq_false (by have := RR.out.o2; omega)
          have n3 : (w.heap.size + 1 = K) = False := eq_false (by have := RR.out.o2; have := RR.out.o1; have := WL.out; omega)
          have n4 : (K = w.heap.size + 1) = False := eq_false (by have := RR.out.o2; have := RR.out.o1; have := WL.out; omega)
          have hw1 : IntKind.i64.wrap ((j : Int) + 1) = ((j + 1 : Nat) : Int) := by rw [IntKind.wrap_i64]; omega
          have q1 : ¬ (m : Int) ≤ (j : Int) := by omega
          have HLT := Lib.hid hlt
          have hl : (pre ++ [(⟨k, hkm⟩ : Fin m)]).length = j + 1 := by rw [List.length_append, HJ.out]; rfl
          have HL := Lib.hid hl
          clear hR hpre hj hin hout hlv hl hmany
          obtain ⟨av, hav⟩ : ∃ z, atOf zs k = z := ⟨_, rfl⟩
          obtain ⟨lnv, hlnv⟩ : ∃ z, lnOf zs k = z := ⟨_, rfl⟩
          rw [hav, hlnv] at HIN
          rw [hav] at HOUT
          rw [hav, hlnv]
          clear hav hlnv
          by_cases hjk : k = j
          · obtain ⟨rfl, rfl⟩ := HIN.out hjk
            have HJK := Lib.hid hjk
            clear hjk
            have PN := Lib.hid (show (pre ++ [(⟨k, hkm⟩ : Fin m)]).map (·.val) = List.range (pre ++ [(⟨k, hkm⟩ : Fin m)]).length by
              rw [HL.out, List.map_append, PRE.out, HJ.out, List.range_succ]
              show List.range j ++ [k] = _
              rw [HJK.out])
            have SK := Lib.hid (show PR V0 T K 0 ((pre ++ [(⟨k, hkm⟩ : Fin m)]).length : Int) [] (X.setCell ⟨K, 0, none⟩ (.int .i64 ((j + 1 : Nat) : Int))) by rw [HL.out]; exact RR.out.setK)
            by_cases hb : many ≤ ((j + 1 : Nat) : Int)
            · have hb2 : decide (many ≤ ((j + 1 : Nat) : Int)) = true := decide_eq_true hb
              gi_wp2
              exact ⟨KeepsOthers.setCell _ _ _, .inr ⟨rfl, SK.out, by rw [HL.out]; exact hb, by
                rcases MANY.out with h | h
                · left; rw [HL.out]; have := HJ.out; rw [h] at this; simp at this; omega
                · right; rw [HL.out]; omega, by rw [HL.out]; omega, by rw [HL.out]; exact HLT.out⟩⟩
            · gi_wp2
              exact ⟨KeepsOthers.setCell _ _ _, (fun kk hkk => by have := OL.out kk hkk; have := RR.out.o1; have := RR.out.o2; exact heap_setCell_other _ _ _ _ (show kk ≠ K by omega)), SK.out, PN.out, .inr (by rw [HL.out]; omega)⟩
          · have hne : (av != (aj : Int)) = true := by have := HOUT.out hjk; simpa using this
            have HJK := Lib.hid hjk
            clear hjk
            gi_wp2
            refine ⟨KeepsOthers.setCell _ _ _, .inl ⟨rfl, fun hsp => False.elim (HJK.out ?_)⟩⟩
            have h := hsp
            rw [HL.out, List.map_append, PRE.out, HJ.out, List.range_succ] at h
            have h2 := List.append_cancel_left h
            simpa using h2
      case done0 =>
        rintro xs X hS ⟨hR, hpre, hmany⟩
        have hl : xs.length = m := by have := congrArg List.length (hpre.symm.trans hS); simpa using this
        refine ⟨xs.length, ?_, by rw [hl]; exact M20.out, hR⟩
        rcases hmany with h | h
        · subst h; simp at hl; subst hl; simp; omega
        · omega
      case stop0 =>
        rintro pre X hSp ⟨hR, h1, h2, h3, h4⟩
        refine ⟨pre.length, ?_, Nat.le_trans h4 M20.out, hR⟩
        omega
      case go0 =>
        rintro D1 X hD ⟨k, hmin, hk20, hR⟩ hK
        have c1 : X.cell? ⟨w.heap.size + 1, 0, none⟩ = some (.int .i64 many) := (cell_of_row _ _ 0 _ _ _ (blk_below MV.out hR.bel)).trans rfl
        obtain ⟨al, cl, hlv⟩ := LVR.out
        have c13 : X.cell? ⟨q, 13, none⟩ = some (.slice al m cl) := by rw [← hlv]; exact CPC.out X hR.bel
        have ct : X.cell? ⟨T, 0, none⟩ = some (.int .i64 0) := (cell_of_row _ _ 0 _ _ _ hR.tb).trans rfl
        have ck : X.cell? ⟨K, 0, none⟩ = some (.int .i64 k) := (cell_of_row _ _ 0 _ _ _ hR.kb).trans rfl
        have RR := Lib.hid hR; have HK1 := Lib.hid hK; have HMIN := Lib.hid hmin
        have HD := Lib.hid (show K < D1 by have := KLT.out; omega)
        clear hR hK KLT hlv
        go_upto_region 24 with fail
        go_cut [117] (fun s wx => s = .bool false ∧ wx = X)
        case first =>
          go_wp2
          all_goals go_meet
          all_goals first | exact ⟨rfl, rfl⟩ | (refine ⟨?_, rfl⟩; congr 1; simp; omega)
        case rest =>
          obtain ⟨rfl, rfl⟩ := hcut
          clear c1 c13 ck hmin
          go_wp2
          rw [rounds_succ]
          clear ct
          go_wp2
          obtain ⟨W3, hW3⟩ : ∃ X, X = ((wc.alloc (.cells #[.int .i64 1] 3)).alloc (.cells #[.int .i64 0] 3)) := ⟨_, rfl⟩
          rw [← hW3]
          have RS := Lib.hid (show PR V0 wc.heap.size (wc.heap.size + 1) 1 0 [D1] W3 by rw [hW3]; exact RR.out.next HK1.out HD.out)
          have KLT := Lib.hid (show wc.heap.size + 1 < W3.heap.size by rw [hW3]; simp)
          have DLT := Lib.hid (show D1 < wc.heap.size from (Array.getElem?_eq_some_iff.1 HK1.out).1)
          clear RR HK1 HD hW3 HMIN HT
          obtain ⟨K2, hK⟩ : ∃ K, wc.heap.size + 1 = K := ⟨_, rfl⟩
          rw [hK] at RS KLT ⊢
          obtain ⟨T2, hT⟩ : ∃ T, wc.heap.size = T := ⟨_, rfl⟩
          rw [hT] at RS DLT ⊢
          clear hK hT
          have BW := Lib.hid (show Below V0.heap.size V0 W3 from RS.out.bel)
          refine (wpIn_wide (n := 8)).1 ?_
          refine rf_join (F := Fence.wide) (n := 8) rfl (by omega) (gf := 51) (lb := #[.pointer (some ⟨Bs, 0, none⟩)]) rfl trivial (enters_of Tryz.func51 (by kernel_rfl) rfl)
            (Pieces_stops 7 (by omega) m u zs Bs W3 (Nat.lt_of_lt_of_le BL.out BW.out.size) (blk_below UV.out BW.out) (SliceV.below SU.out BW.out) HZ.out M20.out (fun k hk => Nat.lt_of_lt_of_le (OL.out k hk) BW.out.size) HON.out)
            (fun h1 h2 k hk => (h2 k hk).trans (h1 k hk)) (fun W1 l o o' hl _ _ _ k hk => World.putObj_heap_other (by have := OL.out k hk; have := BW.out.size; omega)) (Below.refl _ _) (fun _ => rfl)
            (fun pre X => PR V0 T2 K2 1 (pre.length : Int) [D1] X ∧ pre.map (·.val) = List.range pre.length)
            (fun pre X => False)
            (fun X => PR V0 T2 K2 1 (m : Int) [D1] X)
            (fun s A B row hs hg hr => ⟨hs.1.grown hg KLT.out (fun r e => (hr r e).1), hs.2⟩)
            (fun s A B row hs hg hr => hs)
            ⟨RS.out, rfl⟩ ?ab1 ?done1 ?stop1 ?go1
          case ab1 =>
            apply Exists.intro
            apply And.intro
            case left =>
              rintro l y X K hK
              gi_wp2
              exact hK
            case right =>
              rintro l pre ⟨k, hkm⟩ X ⟨hR, hpre⟩ hlt
              have RR := Lib.hid hR; have PRE := Lib.hid hpre
              obtain ⟨j, hj⟩ : ∃ j, pre.length = j := ⟨_, rfl⟩
              have HJ := Lib.hid hj
              rw [hj] at RR hlt
              obtain ⟨aj, gq, o, cq, ad, ln, cd, hlv, e0, e1, hin, hout, hln⟩ := ELT.out X RR.out.bel k j hkm hlt
              have c1 : X.cell? ⟨w.heap.size + 1, 0, none⟩ = some (.int .i64 many) := (cell_of_row _ _ 0 _ _ _ (blk_below MV.out RR.out.bel)).trans rfl
              have r1 : X.cell? ⟨w.heap.size + 2, 0, none⟩ = some (.bool false) := (cell_of_row _ _ 0 _ _ _ (blk_below RV.out RR.out.bel)).trans rfl
              have c13 : X.cell? ⟨q, 13, none⟩ = some (.slice (some ⟨gq, o, none⟩) m cq) := by rw [← hlv]; exact CPC.out X RR.out.bel
              have ct : X.cell? ⟨T2, 0, none⟩ = some (.int .i64 1) := (cell_of_row _ _ 0 _ _ _ RR.out.tb).trans rfl
              have ck : X.cell? ⟨K2, 0, none⟩ = some (.int .i64 (j : Int)) := (cell_of_row _ _ 0 _ _ _ RR.out.kb).trans rfl
              have zr := frozen_of_row _ _ 0 _ _ (blk_below RV.out RR.out.bel)
              have zk := frozen_of_row _ _ 0 _ _ RR.out.kb
              have hm20 := M20.out
              have HIN := Lib.hid hin; have HOUT := Lib.hid hout
              show Code.wpIn _ _ _ _ _ _ _
              have n1 : (T2 = K2) = False := eq_false (by have := RR.out.o2; omega)
              have n2 : (K2 = T2) = False := eq_false (by have := RR.out.o2; omega)
              have n3 : (w.heap.size + 1 = K2) = False := eq_false (by have := RR.out.o2; have := RR.out.o1; have := WL.out; omega)
              have n4 : (K2 = w.heap.size + 1) = False := eq_false (by have := RR.out.o2; have := RR.out.o1; have := WL.out; omega)
              have hw1 : IntKind.i64.wrap ((j : Int) + 1) = ((j + 1 : Nat) : Int) := by rw [IntKind.wrap_i64]; omega
              have q1 : ¬ (m : Int) ≤ (j : Int) := by omega
              have HLT := Lib.hid hlt
              have hl : (pre ++ [(⟨k, hkm⟩ : Fin m)]).length = j + 1 := by rw [List.length_append, HJ.out]; rfl
              have HL := Lib.hid hl
              clear hR hpre hj hin hout hlv hl
              obtain ⟨av, hav⟩ : ∃ z, atOf zs k = z := ⟨_, rfl⟩
              obtain ⟨lnv, hlnv⟩ : ∃ z, lnOf zs k = z := ⟨_, rfl⟩
              rw [hav, hlnv] at HIN
              rw [hav] at HOUT
              rw [hav, hlnv]
              clear hav hlnv
              by_cases hjk : k = j
              · obtain ⟨rfl, rfl⟩ := HIN.out hjk
                have HJK := Lib.hid hjk
                clear hjk
                have PN := Lib.hid (show (pre ++ [(⟨k, hkm⟩ : Fin m)]).map (·.val) = List.range (pre ++ [(⟨k, hkm⟩ : Fin m)]).length by
                  rw [HL.out, List.map_append, PRE.out, HJ.out, List.range_succ]
                  show List.range j ++ [k] = _
                  rw [HJK.out])
                have SK := Lib.hid (show PR V0 T2 K2 1 ((pre ++ [(⟨k, hkm⟩ : Fin m)]).length : Int) [D1] (X.setCell ⟨K2, 0, none⟩ (.int .i64 ((j + 1 : Nat) : Int))) by rw [HL.out]; exact RR.out.setK)
                gi_wp2
                exact ⟨KeepsOthers.setCell _ _ _, (fun kk hkk => by have := OL.out kk hkk; have := RR.out.o1; have := RR.out.o2; exact heap_setCell_other _ _ _ _ (show kk ≠ K2 by omega)), SK.out, PN.out⟩
              · have hne : (av != (aj : Int)) = true := by have := HOUT.out hjk; simpa using this
                have HJK := Lib.hid hjk
                clear hjk
                gi_wp2
                refine ⟨KeepsOthers.setCell _ _ _, rfl, fun hsp => False.elim (HJK.out ?_)⟩
                have h := hsp
                rw [HL.out, List.map_append, PRE.out, HJ.out, List.range_succ] at h
                have h2 := List.append_cancel_left h
                simpa using h2
          case done1 =>
            rintro xs X hS ⟨hR, hpre⟩
            have hl : xs.length = m := by have := congrArg List.length (hpre.symm.trans hS); simpa using this
            rw [hl] at hR
            exact hR
          case stop1 =>
            rintro pre X hSp h
            exact h.elim
          case go1 =>
            rintro D2 X hD hR hK
            obtain ⟨al, cl, hlv⟩ := LVR.out
            have c13 : X.cell? ⟨q, 13, none⟩ = some (.slice al m cl) := by rw [← hlv]; exact CPC.out X hR.bel
            have ct : X.cell? ⟨T2, 0, none⟩ = some (.int .i64 1) := (cell_of_row _ _ 0 _ _ _ hR.tb).trans rfl
            have ck : X.cell? ⟨K2, 0, none⟩ = some (.int .i64 m) := (cell_of_row _ _ 0 _ _ _ hR.kb).trans rfl
            have RR := Lib.hid hR; have HK2 := Lib.hid hK
            have HD := Lib.hid (show K2 < D2 by have := KLT.out; omega)
            clear hR hK KLT hlv
            go_upto_region 24 with fail
            go_cut [117] (fun s wx => s = .bool false ∧ wx = X)
            case first =>
              go_wp2
              all_goals go_meet
              all_goals first | exact ⟨rfl, rfl⟩ | (refine ⟨?_, rfl⟩; congr 1; simp; omega)
            case rest =>
              obtain ⟨rfl, rfl⟩ := hcut
              clear c13 ck
              go_wp2
              rw [rounds_succ]
              clear ct
              have RW := Lib.hid (blk_below RV.out RR.out.bel)
              obtain ⟨g1, g2, KD1⟩ := RR.out.def_ D1 (List.mem_singleton.2 rfl)
              have KD1 := Lib.hid KD1
              have BB := Lib.hid (gr_tr DV.out RR.out.bel)
              go_wp2_with (go_at_call 12; go_loud ((with_reducible refine (known_any _).mono ?_); rintro e wk ⟨rfl, hbk⟩; have hb9 : Below wc.heap.size wc wk := gr_tr (gr_alloc wc _) hbk; have X9 := Lib.hid (blk_below RW.out hb9); have K1 := Lib.hid (blk_below KD1.out hb9); have K9 := Lib.hid (blk_below HK2.out hb9); have B9 := Lib.hid (gr_tr BB.out hb9); have x6 : wk.cell? ⟨w.heap.size + 2, 0, none⟩ = some (.bool false) := (cell_of_row _ _ 0 _ _ _ X9.out).trans rfl; have z6 := frozen_of_row _ _ 0 _ _ X9.out; clear hbk hb9))
              obtain ⟨Y, hY⟩ : ∃ z, z = wk.setCell ⟨w.heap.size + 2, 0, none⟩ (.bool true) := ⟨_, rfl⟩
              have gv := WL.out; have gd := HD.out; have gl := DLT.out
              have go2 := RR.out.o2
              have Y0 : Y.heap[D1]? = some (.deferred (some [])) := by rw [hY, heap_setCell_other _ _ _ _ (by show D1 ≠ w.heap.size + 2; omega)]; exact K1.out
              have Y1 : Y.heap[D2]? = some (.deferred (some [])) := by rw [hY, heap_setCell_other _ _ _ _ (by show D2 ≠ w.heap.size + 2; omega)]; exact K9.out
              have YR : Y.heap[w.heap.size + 2]? = some (.cells #[.bool true] 4 (0, 0)) := by rw [hY]; exact heap_setCell_same _ _ _ _ _ _ X9.out
              have YB : Below w.heap.size w Y := by rw [hY]; exact B9.out.setCell (p := ⟨w.heap.size + 2, 0, none⟩) (by show w.heap.size ≤ w.heap.size + 2; omega) _
              have YE : wk.setCell ⟨w.heap.size + 1 + 1, 0, none⟩ (.bool true) = Y := hY.symm
              rw [YE]
              refine ⟨by simp, .inl ⟨_, _, rfl, run_takeDeferred Y1, ?_⟩⟩
              refine ⟨by simp, .inl ⟨_, _, rfl, run_takeDeferred ((World.putObj_heap_other (by omega)).trans Y0), ?_⟩⟩
              refine ⟨.bool true, results_cell1 rfl _ _ (w.heap.size + 2) _ 4 (0, 0) _ rfl ((World.putObj_heap_other (by omega)).trans ((World.putObj_heap_other (by omega)).trans YR)) Tryz.underlying4 rfl, rfl, ?_⟩
              have h1 : Below w.heap.size w (Y.putObj D2 (.deferred none)) := YB.grown (grownBy_putObj' Y D2 _) YB.size (fun j e => by cases e; omega)
              exact h1.grown (grownBy_putObj' _ D1 _) h1.size (fun j e => by cases e; omega)
end Go.Proofs.YtabfmhlhdebcpaaGreatDoor
