/- Discovery: Add that adds. Printed by gendscm.py. -/
import Derived.Test.YtjcgdenkmmgmfaaGreatDoorDscL
namespace Go.Proofs.YtjcgdenkmmgmfaaGreatDoor
open Go.RowKit Dsc
set_option linter.unusedVariables false
set_option linter.unusedSimpArgs false
theorem Keep.grownW {B : Nat → Prop} {w x x' : World} {row : Option Nat} (h : Keep B w x) (hg : x.grownBy x' row) (hr : ∀ k, row = some k → B k) : Keep B w x' := by
  obtain ⟨y, rfl⟩ := h
  exact ⟨⟨x', Nat.le_trans y.size hg.size, fun k hk hn => (hg.block k (Nat.lt_of_lt_of_le hk y.size) (fun e => hn (hr k e.symm))).trans (y.block k hk hn)⟩, rfl⟩
theorem own_one {w : World} {base : Nat} {e : TypeId} {size : Nat} {v : Value} {n : Nat} {xs : List Value} (h : w.ownsRow base e size v n xs) : v.oneCell' = true := by
  obtain ⟨a, c, rfl⟩ := own_shape h; rfl
/-- Behind Add. -/
theorem DirAt.added {w : World} {p : Nat} {es : List Ent} {g : BitVec 64} {lv : Value} {hvs : List Value} (h : DirAt w p es g lv hvs) {x : Ent} {hv : Value} {w3 w' : World} {lv' : Value} {base : Nat}
    (hH : w.ownsRow base 9 1 hv x.hs.length (x.hs.flatMap strC)) (hfit : x.r.Fit) (hsl : ∀ s ∈ x.hs, s.length ≤ 9223372036854775807) (hn : x.hs.length ≤ 256)
    (hown : w3.ownsRow (p + 1) 70 11 lv' (es.length + 1) (((es.map (·.r)).zip hvs).flatMap entC ++ entC (x.r, hv))) (hg : w.grownBy w3 lv.ownBlock)
    (hw' : w' = (w3.setCell ⟨p, 0, none⟩ lv').setCell ⟨p, 1, none⟩ (.int .u64 (uv (g + 1#64)))) : DirAt w' p (es ++ [x]) (g + 1#64) lv' (hvs ++ [hv]) ∧ Chg (DirB p lv) w w' := by
  have hpne : ∀ k, lv.ownBlock = some k → k ≠ p := fun k hk e => by have := (h.own.lt k hk).1; omega
  have hb3 : w3.heap[p]? = some (.cells #[lv, .int .u64 (uv g)] 29 (0, 0)) := (hg.block p (Array.getElem?_eq_some_iff.1 h.blk).1 (fun e => hpne p e.symm rfl)).trans h.blk
  have hcc : Chg (fun b => b = p) w3 w' := by
    rw [hw']; exact (Chg.setCell (B := fun b => b = p) (p := ⟨p, 0, none⟩) _ rfl _).trans (Chg.setCell (B := fun b => b = p) (p := ⟨p, 1, none⟩) _ rfl _)
  have hc : Chg (DirB p lv) w w' := (Chg.of_grown hg (fun k hk => .inr hk)).trans (hcc.mono (fun k hk => .inl hk))
  have hz : ((es.map (·.r)).zip hvs).length = es.length := by rw [List.length_zip, List.length_map, h.len]; omega
  have keepH : ∀ (bs : Nat) (hv2 : Value) (m : Nat) (xs : List Value), w.ownsRow bs 9 1 hv2 m xs → w'.ownsRow bs 9 1 hv2 m xs := fun bs hv2 m xs ho =>
    own_chg ho hc (fun k hk hB => by
      rcases hB with e | e
      · subst e; exact own_apartB ho h.blk (by decide) hk
      · exact own_apartT ho h.own (by decide) k hk e)
  refine ⟨⟨?_, ?_, by simp [h.len], ?_⟩, hc⟩
  · rw [hw']
    exact heap_setCell_same _ _ _ _ _ _ (heap_setCell_same _ _ _ _ _ _ hb3)
  · have e : (((es ++ [x]).map (·.r)).zip (hvs ++ [hv])).flatMap entC = ((es.map (·.r)).zip hvs).flatMap entC ++ entC (x.r, hv) := by
      rw [List.map_append, List.zip_append (by rw [List.length_map, h.len]), List.flatMap_append]; simp
    rw [e, List.length_append]
    refine own_chg hown hcc (fun k hk e2 => ?_)
    have e3 : k = p := e2
    have := (hown.lt k hk).1; omega
  · intro i e hv2 h1 h2
    by_cases hi : i < es.length
    · rw [List.getElem?_append_left hi] at h1
      rw [List.getElem?_append_left (by rw [h.len]; exact hi)] at h2
      obtain ⟨y1, y2, y3⟩ := h.el i e hv2 h1 h2
      exact ⟨y1, keepH _ _ _ _ y2, y3⟩
    · rw [List.getElem?_append_right (by omega)] at h1
      rw [List.getElem?_append_right (by rw [h.len]; omega), h.len] at h2
      obtain ⟨j, hj⟩ : ∃ j, i - es.length = j := ⟨_, rfl⟩
      rw [hj] at h1 h2
      cases j with
      | zero =>
        simp at h1 h2
        subst h1; subst h2
        exact ⟨hfit, own_base (keepH _ _ _ _ hH) (Nat.zero_le _), own_one hH, hsl, hn⟩
      | succ j => simp at h1
set_option maxHeartbeats 6400000 in
set_option maxRecDepth 20000 in
theorem Add_ok (p : Nat) (es : List Ent) (g : BitVec 64) (lv : Value) (hvs : List Value) (r : Rec) (v : Value) (hs : List (List (BitVec 8))) (w : World) (hd : DirAt w p es g lv hvs) (hes : es.length ≤ 256) (hfit : r.Fit) (hv : SliceV w strC v hs) (hl : ∀ s ∈ hs, s.length ≤ 9223372036854775807) (hE : addE es r hs = 0) :
    Calls Tryz.prog 11 #[.pointer (some ⟨p, 0, none⟩), .agg r.cells.toArray, v] w fun e w' => e = .returned (.int .i64 0) ∧ ∃ lv' hv, DirAt w' p (es ++ [⟨r, hs⟩]) (g + 1#64) lv' (hvs ++ [hv]) ∧ (lv'.ownBlock = lv.ownBlock ∨ ∃ b, lv'.ownBlock = some b ∧ w.heap.size ≤ b) ∧ (∀ b, hv.ownBlock = some b → w.heap.size ≤ b) ∧ Chg (DirB p lv) w w' := by
  obtain ⟨e1, e2, e3, e4, e5⟩ := addE_ok hE
  have HSL := Lib.hid hl; have HFIT := Lib.hid hfit
  have DD0 := Lib.hid hd; have S0 := Lib.hid hv
  obtain ⟨ah, ch, rfl, -⟩ := id hv
  obtain ⟨al, cl, hlv⟩ : ∃ a c, lv = .slice a es.length c := own_shape hd.own
  subst hlv
  obtain ⟨W, hW⟩ : ∃ W, W = w.alloc (.cells r.cells.toArray 37) := ⟨_, rfl⟩
  have D := Lib.hid (show Below w.heap.size w W by rw [hW]; exact gr_alloc w _)
  have X := Lib.hid (show W.heap[w.heap.size]? = some (.cells r.cells.toArray 37 (0, 0)) by rw [hW]; exact heap_alloc_new w _)
  have DD := Lib.hid (hd.below D.out)
  have S := Lib.hid (SliceV.below hv D.out)
  have HW := Lib.hid hW
  obtain ⟨b1, hb1⟩ : ∃ b, r.ok = b := ⟨_, rfl⟩
  obtain ⟨b3, hb3⟩ : ∃ b, hs.all nmOk = b := ⟨_, rfl⟩
  obtain ⟨j, hj⟩ : ∃ j, ix es r = j := ⟨_, rfl⟩
  have VAL := Lib.hid (fun w => Valid_at r b1 w hfit hb1)
  have CON := Lib.hid (fun w (h : SliceV w strC (.slice ah hs.length ch) hs) (hn : hs.length ≤ 256) => conHosts_at _ hs b3 w h hl hn hb3)
  have ATX := Lib.hid (fun w (h : DirAt w p es g (.slice al es.length cl) hvs) (hn : es.length ≤ 256) => at_at p es g _ hvs r j w h hj hn)
  have B1 := Lib.hid hb1; have B3 := Lib.hid hb3; have HJ := Lib.hid hj
  have CRS := Lib.hid (show r.cells.toArray.size = 10 from rfl)
  obtain ⟨cr, hcr⟩ : ∃ c, r.cells.toArray = c := ⟨_, rfl⟩
  rw [hcr] at HW X VAL ATX CRS ⊢
  have HCR := Lib.hid (show #[.int .u8 (uv r.tr), .int .u8 (uv r.fa), .bool r.rf, .bool r.sc, .int .u16 (uv r.po), .int .u16 (uv r.ct), .int .u16 (uv r.qu), .string (strOf r.sv), .string (strOf r.sb), .string (strOf r.ad)] = cr from hcr)
  clear hW hb1 hb3 hj hcr hd hv
  obtain ⟨nh, hnh⟩ : ∃ n, hs.length = n := ⟨_, rfl⟩
  have HNH := Lib.hid hnh
  obtain ⟨n, hn⟩ : ∃ n, es.length = n := ⟨_, rfl⟩
  have HN := Lib.hid hn
  have HES := Lib.hid (show n ≤ 256 by rw [← hn]; exact hes)
  rw [hnh] at S S0 CON ⊢
  rw [hn] at DD DD0 ATX ⊢
  have hb1 : b1 = true := by rw [← B1.out]; exact e1
  have hb3 : b3 = true := by rw [← B3.out]; exact e3
  subst hb1; subst hb3
  have HNL := Lib.hid (show nh ≤ 256 by rw [← hnh]; exact e2)
  have hd1 : decide (256 < nh) = false := decide_eq_false (by rw [← hnh]; omega)
  have hd2 : decide (256 ≤ n) = false := decide_eq_false (by rw [← hn]; omega)
  have hneg : ¬ (0 ≤ j) := by rw [← HJ.out]; omega
  have hlt5 : n < 256 := by rw [← hn]; exact e4
  have hlt6 : nh ≤ 256 := by rw [← hnh]; exact e2
  have HN5 := Lib.hid hlt5
  clear hl hfit hes hn hnh e1 e2 e3 e4 e5 hE
  go_enter Tryz.func11, Tryz.ntmps11
  go_upto_region 1 with fail
  rw [← HW.out]
  go_upto_region 9 with (first
    | (refine wpList_load_row rfl 37 (.tmp 4) rfl w.heap.size rfl 37 cr (0, 0) _ X.out Tryz.underlying37 rfl (by rw [CRS.out]; kernel_rfl) ?_)
    | (refine wpList_load_row rfl 37 (.tmp 4) rfl w.heap.size rfl 37 cr (0, 0) _ X2.out Tryz.underlying37 rfl (by rw [CRS.out]; kernel_rfl) ?_)
    | (go_at_call 29; go_loud (refine (VAL.out _).mono ?_; rintro e w1 ⟨rfl, hw⟩; have D1 := Lib.hid (gr_tr D.out hw); have X1 := Lib.hid (blk_below X.out hw); have DD1 := Lib.hid (DD.out.below hw); have S1 := Lib.hid (SliceV.below S.out hw); clear hw))
    | (go_at_call 30; go_loud (refine (CON.out _ S1.out HNL.out).mono ?_; rintro e w2 ⟨rfl, hw⟩; have D2 := Lib.hid (gr_tr D1.out hw); have X2 := Lib.hid (blk_below X1.out hw); have DD2 := Lib.hid (DD1.out.below hw); have S2 := Lib.hid (SliceV.below S1.out hw); clear hw; have p0 : w2.cell? ⟨p, 0, none⟩ = some (.slice al n cl) := (cell_of_row _ _ 0 _ _ _ DD2.out.blk).trans rfl))
    | (go_at_call 32; go_loud (refine (ATX.out _ DD2.out HES.out).mono ?_; rintro e w3 ⟨rfl, hw⟩; have D3 := Lib.hid (gr_tr D2.out hw); have X3 := Lib.hid (blk_below X2.out hw); have DD3 := Lib.hid (DD2.out.below hw); have S3 := Lib.hid (SliceV.below S2.out hw); clear hw p0)))
  clear D D1 D2 X X1 X2 DD DD1 DD2 S S1 S2 VAL CON ATX hd1 hd2 hneg HW hlt5 hlt6
  have CLN := Lib.hid (fun w (h : SliceV w strC (.slice ah nh ch) hs) => cloneHosts_at _ hs w h (by rw [HNH.out]; exact HNL.out))
  have hcr := HCR.out
  subst hcr
  have q0 : ∀ y : KeepT (fun k => (Value.slice al n cl).ownBlock = some k) w3, y.val.cell? ⟨p, 0, none⟩ = some (.slice al n cl) := fun y => y.cell ((cell_of_row _ _ 0 _ _ _ DD3.out.blk).trans rfl) (fun hB => by have := (DD3.out.own.lt p hB).1; omega)
  have XN := Lib.hid (show ¬ (Value.slice al n cl).ownBlock = some w.heap.size from fun hB => own_apartB DD3.out.own X3.out (by decide) hB)
  refine wp_region_planL (fun k => (Value.slice al n cl).ownBlock = some k) [(true, 0), (true, 1), (true, 2), (true, 3), (true, 4), (true, 5), (true, 6), (false, 7), (true, 8), (false, 9), (false, 10), (true, 11), (true, 12)] 13 (by kernel_rfl) (by kernel_rfl) (by intro c a d v w h; cases d <;> exact h) ?_
  intro W1 K1 C1
  (refine wpS_firm rfl (fun K hK => ?_); simp only [Keep]; go_simp; refine hK _ ?_; clear hK K)
  (refine wpS_firm rfl (fun K hK => ?_); simp only [Keep]; go_simp; refine hK _ ?_; clear hK K)
  (refine wpS_firm rfl (fun K hK => ?_); simp only [Keep]; go_simp; refine hK _ ?_; clear hK K)
  (refine wpS_firm rfl (fun K hK => ?_); simp only [Keep]; go_simp; refine hK _ ?_; clear hK K)
  (refine wpS_firm rfl (fun K hK => ?_); simp only [Keep]; go_simp; refine hK _ ?_; clear hK K)
  refine wpS_load_rowM rfl rfl 37 (.tmp 4) rfl w.heap.size rfl 37 #[.int .u8 (uv r.tr), .int .u8 (uv r.fa), .bool r.rf, .bool r.sc, .int .u16 (uv r.po), .int .u16 (uv r.ct), .int .u16 (uv r.qu), .string (strOf r.sv), .string (strOf r.sb), .string (strOf r.ad)] (0, 0) _ (fun x hx => Keep.blkB hx X3.out XN.out) Tryz.underlying37 rfl (by kernel_rfl) ?_
  (refine wpS_firm rfl (fun K hK => ?_); simp only [Keep]; go_simp; refine hK _ ?_; clear hK K)
  refine wpS_chain rfl ?_
  go_wp2_with (go_at_call 33; go_loud (refine (CLN.out _ (SliceV.below S3.out C1.out)).mono ?_; rintro e w4 ⟨hv, rfl, ho, hw⟩; have HV := Lib.hid ho; have C4 := Lib.hid (gr_tr C1.out hw); have K4 := Lib.hid (K1.out.below hw); clear ho hw))
  obtain ⟨ahv, chv, rfl⟩ := own_shape HV.out
  refine ⟨K4.out, ?_⟩
  (refine wpS_firm rfl (fun K hK => ?_); simp only [Keep]; go_simp; refine hK _ ?_; clear hK K)
  refine wpS_chain rfl ?_
  go_wp2
  refine ⟨K4.out.alloc _, ?_⟩
  have C5 := Lib.hid (gr_tr C4.out (gr_alloc w4 (.cells #[.int .u8 (uv r.tr), .int .u8 (uv r.fa), .bool r.rf, .bool r.sc, .int .u16 (uv r.po), .int .u16 (uv r.ct), .int .u16 (uv r.qu), .string (strOf r.sv), .string (strOf r.sb), .string (strOf r.ad), .slice ahv hs.length chv] 70)))
  have K5 := Lib.hid (K4.out.alloc (.cells #[.int .u8 (uv r.tr), .int .u8 (uv r.fa), .bool r.rf, .bool r.sc, .int .u16 (uv r.po), .int .u16 (uv r.ct), .int .u16 (uv r.qu), .string (strOf r.sv), .string (strOf r.sb), .string (strOf r.ad), .slice ahv hs.length chv] 70))
  have D5 := Lib.hid (DD3.out.below C5.out)
  have HV5 := Lib.hid (own_below HV.out (gr_alloc w4 (.cells #[.int .u8 (uv r.tr), .int .u8 (uv r.fa), .bool r.rf, .bool r.sc, .int .u16 (uv r.po), .int .u16 (uv r.ct), .int .u16 (uv r.qu), .string (strOf r.sv), .string (strOf r.sb), .string (strOf r.ad), .slice ahv hs.length chv] 70)))
  have OW5 := Lib.hid (show (w4.alloc (.cells #[.int .u8 (uv r.tr), .int .u8 (uv r.fa), .bool r.rf, .bool r.sc, .int .u16 (uv r.po), .int .u16 (uv r.ct), .int .u16 (uv r.qu), .string (strOf r.sv), .string (strOf r.sb), .string (strOf r.ad), .slice ahv hs.length chv] 70)).ownsRow (p + 1) 70 11 (.slice al n cl) n (((es.map (·.r)).zip hvs).flatMap entC) by have := D5.out.own; rw [HN.out] at this; exact this)
  refine wpS_chain rfl ?_
  refine app_law_at entsOk rfl (.tmp 39) (.tmp 44) rfl (p + 1) _ n _ rfl OW5.out (some ⟨w4.heap.size, 0, none⟩) 1 1 (entC (r, .slice ahv hs.length chv)) rfl (by simp) (by omega) (Row.lit w4 #[.int .u8 (uv r.tr), .int .u8 (uv r.fa), .bool r.rf, .bool r.sc, .int .u16 (uv r.po), .int .u16 (uv r.ct), .int .u16 (uv r.qu), .string (strOf r.sv), .string (strOf r.sb), .string (strOf r.ad), .slice ahv hs.length chv] 70 (0, 0)) rfl (by simp [entC, Dsc.Rec.cells, Value.oneCell']) (by have := HN5.out; omega) (by have := HN5.out; omega) (by have := (Array.getElem?_eq_some_iff.1 D5.out.blk).1; omega) ?_
  intro lv' w6 ho hg ha
  have O6 := Lib.hid ho; have G6 := Lib.hid hg; have A6 := Lib.hid ha
  have K6 := Lib.hid (K5.out.grownW hg (fun k hk => hk))
  clear ho hg ha
  refine ⟨K6.out, ?_⟩
  obtain ⟨al', cl', rfl⟩ := own_shape O6.out
  (refine wpS_firm rfl (fun K hK => ?_); simp only [Keep]; go_simp; refine hK _ ?_; clear hK K)
  (refine wpS_firm rfl (fun K hK => ?_); simp only [Keep]; go_simp; refine hK _ ?_; clear hK K)
  unfold wpS
  refine wpL_last rfl ?_
  have hb6 : w6.heap[p]? = some (.cells #[.slice al n cl, .int .u64 (uv g)] 29 (0, 0)) := (G6.out.block p (Array.getElem?_eq_some_iff.1 D5.out.blk).1 (fun e => by have := (OW5.out.lt p e.symm).1; omega)).trans D5.out.blk
  have p0 : w6.cell? ⟨p, 0, none⟩ = some (.slice al n cl) := (cell_of_row _ _ 0 _ _ _ hb6).trans rfl
  have p1 : w6.cell? ⟨p, 1, none⟩ = some (.int .u64 (uv g)) := (cell_of_row _ _ 1 _ _ _ hb6).trans rfl
  have z0 := frozen_of_row _ _ 0 _ _ hb6
  have z1 := frozen_of_row _ _ 1 _ _ hb6
  clear q0 hb6
  go_wp2
  go_ret
  have hx := DirAt.added (x := ⟨r, hs⟩) (hv := .slice ahv hs.length chv) (lv' := .slice al' (n + 1) cl') D5.out HV5.out HFIT.out HSL.out (by rw [HNH.out]; exact HNL.out) (by rw [HN.out]; exact O6.out) G6.out rfl
  have hsz : w.heap.size ≤ w4.heap.size := (gr_tr D3.out C4.out).size
  refine ⟨rfl, _, _, hx.1, ?_, ?_, (Chg.of_below (B := DirB p (.slice al n cl)) (gr_tr D3.out C5.out)).trans hx.2⟩
  · rcases A6.out with h | h
    · exact .inl h
    · refine .inr ⟨_, h, ?_⟩
      have := (gr_alloc w4 (.cells #[.int .u8 (uv r.tr), .int .u8 (uv r.fa), .bool r.rf, .bool r.sc, .int .u16 (uv r.po), .int .u16 (uv r.ct), .int .u16 (uv r.qu), .string (strOf r.sv), .string (strOf r.sb), .string (strOf r.ad), .slice ahv hs.length chv] 70)).size
      omega
  · intro b hb
    have := (HV.out.lt b hb).1
    have := (gr_tr D3.out C1.out).size
    omega
end Go.Proofs.YtjcgdenkmmgmfaaGreatDoor
