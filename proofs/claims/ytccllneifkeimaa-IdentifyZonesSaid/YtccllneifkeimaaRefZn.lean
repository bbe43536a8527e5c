/- The reference's zones. Printed by genrzn.py. -/
import Derived.Test.YtccllneifkeimaaDecZn
import Derived.Test.YtccllneifkeimaaRef24C
namespace Go.Proofs.Ytccllneifkeimaa
open Go.RowKit Idn
set_option linter.unusedVariables false
set_option linter.unusedSimpArgs false
namespace Idn
theorem flag_lay (L : List (BitVec 8)) (p : Nat) (b : Bool) (hp : p + 2 ≤ L.length) (h0 : L[p]? = some 0#8) (h1 : L[p + 1]? = some 0#8) : Lay.lay L p (Wire.le (bb b) 2) = if b then L.set p 1#8 else L := by
  have e : Wire.le (bb b) 2 = [if b then 1#8 else 0#8, 0#8] := by cases b <;> rfl
  rw [e]
  apply List.ext_getElem?
  intro i
  rw [Lay.lay_get (by simp; omega)]
  by_cases h2 : p ≤ i ∧ i < p + 2
  · rw [if_pos (by simp; omega)]
    have hi : i = p ∨ i = p + 1 := by omega
    rcases hi with rfl | rfl
    · rw [Nat.sub_self]
      cases b
      · simp [h0]
      · simp only [if_true]
        rw [List.getElem?_set_self (by omega)]; rfl
    · rw [show p + 1 - p = 1 by omega]
      cases b
      · simp [h1]
      · simp only [if_true]
        rw [List.getElem?_set_ne (by omega), h1]; rfl
  · rw [if_neg (by simp; omega)]
    cases b
    · rfl
    · simp only [if_true]
      rw [List.getElem?_set_ne (by omega)]
end Idn
set_option maxHeartbeats 6400000 in
set_option maxRecDepth 100000 in
theorem rEncZ_at (x : Zn) (w : World) :
    Calls Try.prog 26 #[.agg (Zn.cells x).toArray] w fun e w' => ∃ u, e = .returned u ∧ BytesV w' u (znB x) ∧ Below w.heap.size w w' := by
  obtain ⟨W, hW⟩ : ∃ W, W = w.alloc (.cells (Zn.cells x).toArray 68) := ⟨_, rfl⟩
  have BX := Lib.hid (show W.heap[w.heap.size]? = some (.cells (Zn.cells x).toArray 68 (0, 0)) by rw [hW]; exact heap_alloc_new w _)
  have D := Lib.hid (show Below w.heap.size w W by rw [hW]; exact gr_alloc w _)
  have HS := Lib.hid (show w.heap.size < W.heap.size by rw [hW]; simp)
  have HW := Lib.hid hW; clear hW
  go_enter Try.func26, Try.ntmps26
  go_upto_region 1 with (fail)
  first
    | rw [← HW.out]
    | (show Code.wp _ _ _ _ (w.alloc (.cells (Zn.cells x).toArray 68)); rw [← HW.out])
  go_upto_region 2 with (refine make_law bytesOk rfl _ _ rfl W.heap.size .i64 .i64 4096 4096 4096 rfl rfl rfl rfl (by omega) (by omega) (Nat.le_refl _) ?_; intro w2 hown hgrow; have O := Lib.hid (show Own4 w2 W.heap.size W.heap.size 4096 zeros by have h := hown; rw [by8_made] at h; exact h); have D2 := Lib.hid ((Below.refl W.heap.size W).grown hgrow (Nat.le_refl _) (by intro k hk; cases hk)); replace BX := Lib.hid (blk_below BX.out D2.out); replace D := Lib.hid (gr_tr D.out D2.out); clear hgrow hown)
  have z : ∀ i, i < 4096 → zeros[i]? = some 0#8 := fun i hi => by unfold zeros; rw [List.getElem?_replicate, if_pos hi]
  have fl0 := flag_lay zeros 0 x.vary (by rw [zeros_len]; omega) (z 0 (by omega)) (z 1 (by omega))
  have fl2 := flag_lay (if x.vary then zeros.set 0 1#8 else zeros) 2 x.across (by split <;> simp [zeros_len]) (by split <;> simp [List.getElem?_set, z]) (by split <;> simp [List.getElem?_set, z])
  have FL0 := Lib.hid fl0; have FL2 := Lib.hid fl2
  have c0 := (World.ownsRow.cellAt O.out 0 (by omega)).trans (by rw [by8_get, z 0 (by omega)]; rfl : _ = some (Value.int .u8 0))
  have c2 := (World.ownsRow.cellAt O.out 2 (by omega)).trans (by rw [by8_get, z 2 (by omega)]; rfl : _ = some (Value.int .u8 0))
  have f0 := World.ownsRow.frozenAt O.out 0
  have f2 := World.ownsRow.frozenAt O.out 2
  have k0 := (cell_of_row _ _ 0 _ _ _ BX.out).trans (rfl : _ = some (Value.bool x.vary))
  have k1 := (cell_of_row _ _ 1 _ _ _ BX.out).trans (rfl : _ = some (Value.bool x.across))
  clear fl0 fl2 z
  obtain ⟨va, hva⟩ : ∃ v, x.vary = v := ⟨_, rfl⟩
  obtain ⟨ac, hac⟩ : ∃ v, x.across = v := ⟨_, rfl⟩
  rw [hva] at k0; rw [hac] at k1
  have HVA := Lib.hid hva; have HAC := Lib.hid hac; clear hva hac
  obtain ⟨L2, hL2⟩ : ∃ L, Lay.lay (Lay.lay zeros 0 (Wire.le (bb x.vary) 2)) 2 (Wire.le (bb x.across) 2) = L := ⟨_, rfl⟩
  rw [FL0.out] at hL2
  have FL := FL2.out
  rw [hL2] at FL
  rw [HVA.out, HAC.out] at FL
  have HL2 := Lib.hid (show Lay.lay (Lay.lay zeros 0 (Wire.le (bb x.vary) 2)) 2 (Wire.le (bb x.across) 2) = L2 by rw [FL0.out]; exact hL2)
  have HFL := Lib.hid FL
  clear hL2 FL FL0 FL2
  cases va <;> cases ac
  · go_upto_region 6 with (fail)
    have O0 : Own4 w2 W.heap.size W.heap.size 4096 zeros := O.out
    obtain ⟨wz, hwz⟩ : ∃ z, z = w2 := ⟨_, rfl⟩
    have OZ := Lib.hid (show Own4 wz W.heap.size W.heap.size 4096 L2 by rw [hwz, show L2 = zeros by rw [HFL.out]; rfl]; exact O0)
    have CZ := Lib.hid (show Chg (fun b => b = W.heap.size) w2 wz by rw [hwz]; exact Chg.refl (fun b => b = W.heap.size) w2)
    rw [← hwz]
    have HWZ := Lib.hid hwz
    clear hwz O0 c0 c2 f0 f2 k0 k1
    have k0 := (cell_of_row _ _ 2 _ _ _ (Chg.blk (k := w.heap.size) CZ.out BX.out (fun h => by have := HS.out; omega))).trans (rfl : _ = some (Value.int .u32 (uv x.active)))
    go_upto_region 7 with (go_at_call 40; go_loud (refine (rput_any W.heap.size 4096 W.heap.size _ 4 4 (x.active.setWidth 64) _ OZ.out (by omega) (by omega)).mono ?_; rintro r wn0 ⟨rfl, ho, hc⟩; have P0 := Lib.hid ho; have C0 := Lib.hid (CZ.out.trans hc); clear ho hc))
    have k1 := (cell_of_row _ _ 3 _ _ _ (Chg.blk (k := w.heap.size) C0.out BX.out (fun h => by have := HS.out; omega))).trans (rfl : _ = some (Value.int .u32 (uv x.openz)))
    go_upto_region 8 with (go_at_call 40; go_loud (refine (rput_any W.heap.size 4096 W.heap.size _ 8 4 (x.openz.setWidth 64) _ P0.out (by omega) (by omega)).mono ?_; rintro r wn1 ⟨rfl, ho, hc⟩; have P1 := Lib.hid ho; have C1 := Lib.hid (C0.out.trans hc); clear ho hc))
    have k2 := (cell_of_row _ _ 4 _ _ _ (Chg.blk (k := w.heap.size) C1.out BX.out (fun h => by have := HS.out; omega))).trans (rfl : _ = some (Value.int .u64 (uv x.size)))
    go_upto_region 9 with (go_at_call 40; go_loud (refine (rput_any W.heap.size 4096 W.heap.size _ 2816 8 (x.size) _ P1.out (by omega) (by omega)).mono ?_; rintro r wn2 ⟨rfl, ho, hc⟩; have P2 := Lib.hid ho; have C2 := Lib.hid (C1.out.trans hc); clear ho hc))
    have k3 := (cell_of_row _ _ 5 _ _ _ (Chg.blk (k := w.heap.size) C2.out BX.out (fun h => by have := HS.out; omega))).trans (rfl : _ = some (Value.int .u8 (uv x.ext)))
    go_upto_region 10 with (go_at_call 40; go_loud (refine (rput_any W.heap.size 4096 W.heap.size _ 2824 1 (x.ext.setWidth 64) _ P2.out (by omega) (by omega)).mono ?_; rintro r wn3 ⟨rfl, ho, hc⟩; have P3 := Lib.hid ho; have C3 := Lib.hid (C2.out.trans hc); clear ho hc))
    go_wp2
    go_ret
    have hb := P3.out.bytes
    refine ⟨_, rfl, ?_, C3.out.fresh D.out (fun k hk => by have := HS.out; omega)⟩
    unfold znB
    rw [znFs_eq]
    show BytesV _ _ (Lay.lay (Lay.lay (Lay.lay (Lay.lay (Lay.lay (Lay.lay zeros 0 (Wire.le (bb x.vary) 2)) 2 (Wire.le (bb x.across) 2)) 4 (Wire.le (x.active.setWidth 64) 4)) 8 (Wire.le (x.openz.setWidth 64) 4)) 2816 (Wire.le (x.size.setWidth 64) 8)) 2824 (Wire.le (x.ext.setWidth 64) 1))
    rw [HL2.out, BitVec.setWidth_eq x.size]
    exact hb
  · go_upto_region 6 with (fail)
    have O0 : Own4 w2 W.heap.size W.heap.size 4096 zeros := O.out
    have O1 : Own4 (World.setCell w2 ⟨W.heap.size, 2, none⟩ (.int .u8 1)) W.heap.size W.heap.size 4096 (List.set zeros 2 1#8) := by rw [Own4, ← by8_setL]; exact (World.ownsRow.stored O0 2 (.int .u8 (uv 1#8))).1
    obtain ⟨wz, hwz⟩ : ∃ z, z = (World.setCell w2 ⟨W.heap.size, 2, none⟩ (.int .u8 1)) := ⟨_, rfl⟩
    have OZ := Lib.hid (show Own4 wz W.heap.size W.heap.size 4096 L2 by rw [hwz, show L2 = (List.set zeros 2 1#8) by rw [HFL.out]; rfl]; exact O1)
    have CZ := Lib.hid (show Chg (fun b => b = W.heap.size) w2 wz by rw [hwz]; exact (Chg.refl (fun b => b = W.heap.size) w2).trans (Chg.setCell (B := fun b => b = W.heap.size) (p := ⟨W.heap.size, 2, none⟩) _ rfl _))
    rw [← hwz]
    have HWZ := Lib.hid hwz
    clear hwz O0 O1 c0 c2 f0 f2 k0 k1
    have k0 := (cell_of_row _ _ 2 _ _ _ (Chg.blk (k := w.heap.size) CZ.out BX.out (fun h => by have := HS.out; omega))).trans (rfl : _ = some (Value.int .u32 (uv x.active)))
    go_upto_region 7 with (go_at_call 40; go_loud (refine (rput_any W.heap.size 4096 W.heap.size _ 4 4 (x.active.setWidth 64) _ OZ.out (by omega) (by omega)).mono ?_; rintro r wn0 ⟨rfl, ho, hc⟩; have P0 := Lib.hid ho; have C0 := Lib.hid (CZ.out.trans hc); clear ho hc))
    have k1 := (cell_of_row _ _ 3 _ _ _ (Chg.blk (k := w.heap.size) C0.out BX.out (fun h => by have := HS.out; omega))).trans (rfl : _ = some (Value.int .u32 (uv x.openz)))
    go_upto_region 8 with (go_at_call 40; go_loud (refine (rput_any W.heap.size 4096 W.heap.size _ 8 4 (x.openz.setWidth 64) _ P0.out (by omega) (by omega)).mono ?_; rintro r wn1 ⟨rfl, ho, hc⟩; have P1 := Lib.hid ho; have C1 := Lib.hid (C0.out.trans hc); clear ho hc))
    have k2 := (cell_of_row _ _ 4 _ _ _ (Chg.blk (k := w.heap.size) C1.out BX.out (fun h => by have := HS.out; omega))).trans (rfl : _ = some (Value.int .u64 (uv x.size)))
    go_upto_region 9 with (go_at_call 40; go_loud (refine (rput_any W.heap.size 4096 W.heap.size _ 2816 8 (x.size) _ P1.out (by omega) (by omega)).mono ?_; rintro r wn2 ⟨rfl, ho, hc⟩; have P2 := Lib.hid ho; have C2 := Lib.hid (C1.out.trans hc); clear ho hc))
    have k3 := (cell_of_row _ _ 5 _ _ _ (Chg.blk (k := w.heap.size) C2.out BX.out (fun h => by have := HS.out; omega))).trans (rfl : _ = some (Value.int .u8 (uv x.ext)))
    go_upto_region 10 with (go_at_call 40; go_loud (refine (rput_any W.heap.size 4096 W.heap.size _ 2824 1 (x.ext.setWidth 64) _ P2.out (by omega) (by omega)).mono ?_; rintro r wn3 ⟨rfl, ho, hc⟩; have P3 := Lib.hid ho; have C3 := Lib.hid (C2.out.trans hc); clear ho hc))
    go_wp2
    go_ret
    have hb := P3.out.bytes
    refine ⟨_, rfl, ?_, C3.out.fresh D.out (fun k hk => by have := HS.out; omega)⟩
    unfold znB
    rw [znFs_eq]
    show BytesV _ _ (Lay.lay (Lay.lay (Lay.lay (Lay.lay (Lay.lay (Lay.lay zeros 0 (Wire.le (bb x.vary) 2)) 2 (Wire.le (bb x.across) 2)) 4 (Wire.le (x.active.setWidth 64) 4)) 8 (Wire.le (x.openz.setWidth 64) 4)) 2816 (Wire.le (x.size.setWidth 64) 8)) 2824 (Wire.le (x.ext.setWidth 64) 1))
    rw [HL2.out, BitVec.setWidth_eq x.size]
    exact hb
  · go_upto_region 6 with (fail)
    have O0 : Own4 w2 W.heap.size W.heap.size 4096 zeros := O.out
    have O1 : Own4 (w2.setCell ⟨W.heap.size, 0, none⟩ (.int .u8 1)) W.heap.size W.heap.size 4096 (zeros.set 0 1#8) := by rw [Own4, ← by8_setL]; exact (World.ownsRow.stored O0 0 (.int .u8 (uv 1#8))).1
    obtain ⟨wz, hwz⟩ : ∃ z, z = (w2.setCell ⟨W.heap.size, 0, none⟩ (.int .u8 1)) := ⟨_, rfl⟩
    have OZ := Lib.hid (show Own4 wz W.heap.size W.heap.size 4096 L2 by rw [hwz, show L2 = (zeros.set 0 1#8) by rw [HFL.out]; rfl]; exact O1)
    have CZ := Lib.hid (show Chg (fun b => b = W.heap.size) w2 wz by rw [hwz]; exact (Chg.refl (fun b => b = W.heap.size) w2).trans (Chg.setCell (B := fun b => b = W.heap.size) (p := ⟨W.heap.size, 0, none⟩) _ rfl _))
    rw [← hwz]
    have HWZ := Lib.hid hwz
    clear hwz O0 O1 c0 c2 f0 f2 k0 k1
    have k0 := (cell_of_row _ _ 2 _ _ _ (Chg.blk (k := w.heap.size) CZ.out BX.out (fun h => by have := HS.out; omega))).trans (rfl : _ = some (Value.int .u32 (uv x.active)))
    go_upto_region 7 with (go_at_call 40; go_loud (refine (rput_any W.heap.size 4096 W.heap.size _ 4 4 (x.active.setWidth 64) _ OZ.out (by omega) (by omega)).mono ?_; rintro r wn0 ⟨rfl, ho, hc⟩; have P0 := Lib.hid ho; have C0 := Lib.hid (CZ.out.trans hc); clear ho hc))
    have k1 := (cell_of_row _ _ 3 _ _ _ (Chg.blk (k := w.heap.size) C0.out BX.out (fun h => by have := HS.out; omega))).trans (rfl : _ = some (Value.int .u32 (uv x.openz)))
    go_upto_region 8 with (go_at_call 40; go_loud (refine (rput_any W.heap.size 4096 W.heap.size _ 8 4 (x.openz.setWidth 64) _ P0.out (by omega) (by omega)).mono ?_; rintro r wn1 ⟨rfl, ho, hc⟩; have P1 := Lib.hid ho; have C1 := Lib.hid (C0.out.trans hc); clear ho hc))
    have k2 := (cell_of_row _ _ 4 _ _ _ (Chg.blk (k := w.heap.size) C1.out BX.out (fun h => by have := HS.out; omega))).trans (rfl : _ = some (Value.int .u64 (uv x.size)))
    go_upto_region 9 with (go_at_call 40; go_loud (refine (rput_any W.heap.size 4096 W.heap.size _ 2816 8 (x.size) _ P1.out (by omega) (by omega)).mono ?_; rintro r wn2 ⟨rfl, ho, hc⟩; have P2 := Lib.hid ho; have C2 := Lib.hid (C1.out.trans hc); clear ho hc))
    have k3 := (cell_of_row _ _ 5 _ _ _ (Chg.blk (k := w.heap.size) C2.out BX.out (fun h => by have := HS.out; omega))).trans (rfl : _ = some (Value.int .u8 (uv x.ext)))
    go_upto_region 10 with (go_at_call 40; go_loud (refine (rput_any W.heap.size 4096 W.heap.size _ 2824 1 (x.ext.setWidth 64) _ P2.out (by omega) (by omega)).mono ?_; rintro r wn3 ⟨rfl, ho, hc⟩; have P3 := Lib.hid ho; have C3 := Lib.hid (C2.out.trans hc); clear ho hc))
    go_wp2
    go_ret
    have hb := P3.out.bytes
    refine ⟨_, rfl, ?_, C3.out.fresh D.out (fun k hk => by have := HS.out; omega)⟩
    unfold znB
    rw [znFs_eq]
    show BytesV _ _ (Lay.lay (Lay.lay (Lay.lay (Lay.lay (Lay.lay (Lay.lay zeros 0 (Wire.le (bb x.vary) 2)) 2 (Wire.le (bb x.across) 2)) 4 (Wire.le (x.active.setWidth 64) 4)) 8 (Wire.le (x.openz.setWidth 64) 4)) 2816 (Wire.le (x.size.setWidth 64) 8)) 2824 (Wire.le (x.ext.setWidth 64) 1))
    rw [HL2.out, BitVec.setWidth_eq x.size]
    exact hb
  · go_upto_region 6 with (fail)
    have O0 : Own4 w2 W.heap.size W.heap.size 4096 zeros := O.out
    have O1 : Own4 (w2.setCell ⟨W.heap.size, 0, none⟩ (.int .u8 1)) W.heap.size W.heap.size 4096 (zeros.set 0 1#8) := by rw [Own4, ← by8_setL]; exact (World.ownsRow.stored O0 0 (.int .u8 (uv 1#8))).1
    have O2 : Own4 (World.setCell (w2.setCell ⟨W.heap.size, 0, none⟩ (.int .u8 1)) ⟨W.heap.size, 2, none⟩ (.int .u8 1)) W.heap.size W.heap.size 4096 (List.set (zeros.set 0 1#8) 2 1#8) := by rw [Own4, ← by8_setL]; exact (World.ownsRow.stored O1 2 (.int .u8 (uv 1#8))).1
    obtain ⟨wz, hwz⟩ : ∃ z, z = (World.setCell (w2.setCell ⟨W.heap.size, 0, none⟩ (.int .u8 1)) ⟨W.heap.size, 2, none⟩ (.int .u8 1)) := ⟨_, rfl⟩
    have OZ := Lib.hid (show Own4 wz W.heap.size W.heap.size 4096 L2 by rw [hwz, show L2 = (List.set (zeros.set 0 1#8) 2 1#8) by rw [HFL.out]; rfl]; exact O2)
    have CZ := Lib.hid (show Chg (fun b => b = W.heap.size) w2 wz by rw [hwz]; exact ((Chg.refl (fun b => b = W.heap.size) w2).trans (Chg.setCell (B := fun b => b = W.heap.size) (p := ⟨W.heap.size, 0, none⟩) _ rfl _)).trans (Chg.setCell (B := fun b => b = W.heap.size) (p := ⟨W.heap.size, 2, none⟩) _ rfl _))
    rw [← hwz]
    have HWZ := Lib.hid hwz
    clear hwz O0 O1 O2 c0 c2 f0 f2 k0 k1
    have k0 := (cell_of_row _ _ 2 _ _ _ (Chg.blk (k := w.heap.size) CZ.out BX.out (fun h => by have := HS.out; omega))).trans (rfl : _ = some (Value.int .u32 (uv x.active)))
    go_upto_region 7 with (go_at_call 40; go_loud (refine (rput_any W.heap.size 4096 W.heap.size _ 4 4 (x.active.setWidth 64) _ OZ.out (by omega) (by omega)).mono ?_; rintro r wn0 ⟨rfl, ho, hc⟩; have P0 := Lib.hid ho; have C0 := Lib.hid (CZ.out.trans hc); clear ho hc))
    have k1 := (cell_of_row _ _ 3 _ _ _ (Chg.blk (k := w.heap.size) C0.out BX.out (fun h => by have := HS.out; omega))).trans (rfl : _ = some (Value.int .u32 (uv x.openz)))
    go_upto_region 8 with (go_at_call 40; go_loud (refine (rput_any W.heap.size 4096 W.heap.size _ 8 4 (x.openz.setWidth 64) _ P0.out (by omega) (by omega)).mono ?_; rintro r wn1 ⟨rfl, ho, hc⟩; have P1 := Lib.hid ho; have C1 := Lib.hid (C0.out.trans hc); clear ho hc))
    have k2 := (cell_of_row _ _ 4 _ _ _ (Chg.blk (k := w.heap.size) C1.out BX.out (fun h => by have := HS.out; omega))).trans (rfl : _ = some (Value.int .u64 (uv x.size)))
    go_upto_region 9 with (go_at_call 40; go_loud (refine (rput_any W.heap.size 4096 W.heap.size _ 2816 8 (x.size) _ P1.out (by omega) (by omega)).mono ?_; rintro r wn2 ⟨rfl, ho, hc⟩; have P2 := Lib.hid ho; have C2 := Lib.hid (C1.out.trans hc); clear ho hc))
    have k3 := (cell_of_row _ _ 5 _ _ _ (Chg.blk (k := w.heap.size) C2.out BX.out (fun h => by have := HS.out; omega))).trans (rfl : _ = some (Value.int .u8 (uv x.ext)))
    go_upto_region 10 with (go_at_call 40; go_loud (refine (rput_any W.heap.size 4096 W.heap.size _ 2824 1 (x.ext.setWidth 64) _ P2.out (by omega) (by omega)).mono ?_; rintro r wn3 ⟨rfl, ho, hc⟩; have P3 := Lib.hid ho; have C3 := Lib.hid (C2.out.trans hc); clear ho hc))
    go_wp2
    go_ret
    have hb := P3.out.bytes
    refine ⟨_, rfl, ?_, C3.out.fresh D.out (fun k hk => by have := HS.out; omega)⟩
    unfold znB
    rw [znFs_eq]
    show BytesV _ _ (Lay.lay (Lay.lay (Lay.lay (Lay.lay (Lay.lay (Lay.lay zeros 0 (Wire.le (bb x.vary) 2)) 2 (Wire.le (bb x.across) 2)) 4 (Wire.le (x.active.setWidth 64) 4)) 8 (Wire.le (x.openz.setWidth 64) 4)) 2816 (Wire.le (x.size.setWidth 64) 8)) 2824 (Wire.le (x.ext.setWidth 64) 1))
    rw [HL2.out, BitVec.setWidth_eq x.size]
    exact hb
namespace Idn
/-- What the reference reads. -/
def rdZr (l : List (BitVec 8)) : Zn := ⟨l[0]? == some 1#8, l[2]? == some 1#8, (Wire.getV (cutL l 4 4)).setWidth 32, (Wire.getV (cutL l 8 4)).setWidth 32, Wire.getV (cutL l 2816 8), (Wire.getV (cutL l 2824 1)).setWidth 8⟩
theorem byte_of (l : List (BitVec 8)) (a : Nat) (v : BitVec 64) (n : Nat) (hn : 0 < n) (h : cutL l a n = Wire.le v n) : l[a]? = some (v.setWidth 8) := by
  have e : (cutL l a n)[0]? = l[a]? := by unfold cutL; rw [List.getElem?_take_of_lt hn, List.getElem?_drop, Nat.add_zero]
  rw [← e, h, Wire.le_get v n 0 hn]; simp
theorem cut_back {sp : Spec} {vs : List (BitVec 64)} (ha : apartB sp = true) (hin : ∀ q ∈ fsOf sp vs, q.1 + q.2.length ≤ zeros.length) {s : Nat × Kd × Nat} {v : BitVec 64} (hm : (s, v) ∈ sp.zip vs) :
    cutL (Lay.lays zeros (fsOf sp vs)) s.1 s.2.1.size = Wire.le v s.2.1.size := by
  have hq : (s.1, Wire.le v s.2.1.size) ∈ fsOf sp vs := by
    unfold fsOf; exact List.mem_map.2 ⟨(s, v), hm, rfl⟩
  have h := Lay.lays_read hin (fsOf_apart sp vs ha) _ hq
  simp only [Wire.le_len] at h
  exact h
theorem bb_byte (b : Bool) : (some ((bb b).setWidth 8) == some 1#8) = b := by cases b <;> decide
theorem rdZr_back (x : Zn) : rdZr (znB x) = x := by
  have h := rdZ_back x
  have h0 := byte_of (znB x) 0 (bb x.vary) 2 (by decide) (cut_back (sp := znSpec) (vs := znV x) apart_zn (znFs_in x) (s := (0, .flag, 0)) (by simp [znSpec, znV]))
  have h2 := byte_of (znB x) 2 (bb x.across) 2 (by decide) (cut_back (sp := znSpec) (vs := znV x) apart_zn (znFs_in x) (s := (2, .flag, 1)) (by simp [znSpec, znV]))
  unfold rdZr
  rw [h0, h2, bb_byte, bb_byte]
  unfold rdZ at h
  obtain ⟨a1, a2, a3, a4, a5, a6⟩ := x
  simp only [Zn.mk.injEq] at h ⊢
  exact ⟨trivial, trivial, h.2.2.1, h.2.2.2.1, h.2.2.2.2.1, h.2.2.2.2.2⟩
end Idn
set_option maxHeartbeats 6400000 in
set_option maxRecDepth 100000 in
theorem rDecode_Zn (l : List (BitVec 8)) (bv : Value) (w : World) (y : Zn) (e : Int) (hb : BytesV w bv l) (hl : l.length ≤ 140737488355328) (hd : decV rdZr okZ znB znZ l = (y, e)) :
    Calls Try.prog 29 #[bv] w fun r w' => r = .returned (.tuple #[.agg (Zn.cells y).toArray, .int .i64 e]) ∧ Below w.heap.size w w' := by
  have HD := Lib.hid hd; have BV0 := Lib.hid hb
  obtain ⟨W, hW⟩ : ∃ W, W = (w.alloc (.cells (Zn.cells znZ).toArray 68)).alloc (.cells (Zn.cells znZ).toArray 68) := ⟨_, rfl⟩
  have D := Lib.hid (show Below w.heap.size w W by rw [hW]; exact gr_tr (gr_alloc w _) (gr_alloc _ _))
  have XA := Lib.hid (show W.heap[w.heap.size]? = some (.cells (Zn.cells znZ).toArray 68 (0, 0)) by rw [hW]; exact blk_below (heap_alloc_new w _) (gr_alloc _ _))
  have XB := Lib.hid (show W.heap[w.heap.size + 1]? = some (.cells (Zn.cells znZ).toArray 68 (0, 0)) by rw [hW]; have := heap_alloc_new (w.alloc (.cells (Zn.cells znZ).toArray 68)) (.cells (Zn.cells znZ).toArray 68); rwa [World.size_alloc] at this)
  have HW := Lib.hid hW
  clear hW hd hb
  by_cases h4 : l.length = 4096
  · obtain ⟨g, o, cv, rfl⟩ := BV0.out.shapeAt (by omega)
    have hb4 := BV0.out
    rw [h4] at hb4 ⊢
    replace BV0 := Lib.hid hb4
    clear hb4
    have HL4 := Lib.hid h4
    have ec : (if l.length < 4096 then (4 : Int) else if 4096 < l.length then 5 else 0) = 0 := by rw [if_neg (by omega), if_neg (by omega)]
    have EC := Lib.hid ec
    have GL := Lib.hid (slice_lt BV0.out (by omega))
    clear h4 ec
    have BV := Lib.hid (BV0.out.below D.out)
    have OFF := Lib.hid (show Off (fun b => b = w.heap.size + 1) (.slice (some ⟨g, o, none⟩) 4096 cv) from fun g' o' n' c' e h => by have := GL.out g' o' n' c' e; omega)
    obtain ⟨y0, hy0⟩ : ∃ y, l[0]? = some y := ⟨_, List.getElem?_eq_getElem (by have := HL4.out; omega)⟩
    obtain ⟨y2, hy2⟩ : ∃ y, l[2]? = some y := ⟨_, List.getElem?_eq_getElem (by have := HL4.out; omega)⟩
    have HY0 := Lib.hid hy0; have HY2 := Lib.hid hy2
    clear hy0 hy2
    obtain ⟨g2, hg2⟩ : ∃ v, Wire.getV (cutL l 4 4) = v := ⟨_, rfl⟩
    obtain ⟨g3, hg3⟩ : ∃ v, Wire.getV (cutL l 8 4) = v := ⟨_, rfl⟩
    obtain ⟨g4, hg4⟩ : ∃ v, Wire.getV (cutL l 2816 8) = v := ⟨_, rfl⟩
    obtain ⟨g5, hg5⟩ : ∃ v, Wire.getV (cutL l 2824 1) = v := ⟨_, rfl⟩
    have Hg2 := Lib.hid hg2; have Hg3 := Lib.hid hg3; have Hg4 := Lib.hid hg4; have Hg5 := Lib.hid hg5
    clear hg2 hg3 hg4 hg5
    have hcap : (l.length : Int) ≤ 9223372036854775807 := by omega
    go_enter Try.func29, Try.ntmps29
    go_upto_region 2 with (fail)
    first
      | rw [← HW.out]
      | (show Code.wp _ _ _ _ ((w.alloc (.cells (Zn.cells znZ).toArray 68)).alloc (.cells (Zn.cells znZ).toArray 68)); rw [← HW.out])
    go_upto_region 5 with (go_at_call 51; go_loud (refine (check_any _ l 0 _ BV.out EC.out).mono ?_; rintro r w' ⟨rfl, rfl⟩))
    go_cut [] (fun wx => wx.heap[w.heap.size + 1]? = some (.cells (Array.setIfInBounds (Array.setIfInBounds (Zn.cells znZ).toArray 0 (.bool (uv y0 == 1))) 1 (.bool (uv y2 == 1))) 68 (0, 0)) ∧ Chg (fun b => b = w.heap.size + 1) W wx)
    case first =>
      have hnX : ¬ g = w.heap.size + 1 := by have := GL.out _ _ _ _ rfl; omega
      have q0 : ∀ z : KeepT (fun b => b = w.heap.size + 1) W, z.val.cell? ⟨g, o, none⟩ = some (.int .u8 (uv y0)) := fun z => z.cell (by have := BV.out.cellAt HY0.out; rwa [Nat.add_zero] at this) hnX
      have q2 : ∀ z : KeepT (fun b => b = w.heap.size + 1) W, z.val.cell? ⟨g, o + 2, none⟩ = some (.int .u8 (uv y2)) := fun z => z.cell (BV.out.cellAt HY2.out) hnX
      refine wp_region_planW (fun b => b = w.heap.size + 1) [(true, 0), (true, 1), (true, 2), (true, 3), (true, 4), (true, 5), (true, 6), (true, 7), (true, 8), (false, 9), (true, 10), (false, 11)] (by kernel_rfl) (by kernel_rfl) (by intro c a d v w h; cases d <;> exact h) ?_
      intro W1 K1 C1
      repeat (refine wpS_firm rfl (fun K hK => ?_); simp only [Keep]; go_simp; refine hK _ ?_; clear hK K)
      have XB1 := Lib.hid (blk_below XB.out C1.out)
      have cX0 := (cell_of_row _ _ 0 _ _ _ XB1.out).trans (rfl : _ = some (Value.bool false))
      have cX1 := (cell_of_row _ _ 1 _ _ _ XB1.out).trans (rfl : _ = some (Value.bool false))
      have fX0 := frozen_of_row _ _ 0 _ _ XB1.out
      have fX1 := frozen_of_row _ _ 1 _ _ XB1.out
      refine wpS_chain rfl ?_
      go_wp2
      refine ⟨K1.out.put rfl _, ?_⟩
      repeat (refine wpS_firm rfl (fun K hK => ?_); simp only [Keep]; go_simp; refine hK _ ?_; clear hK K)
      refine wpS_chain rfl ?_
      go_wp2
      first
        | (refine ⟨(K1.out.put rfl _).put rfl _, ?_⟩; unfold wpS)
        | skip
      go_wp2
      go_meet
      exact ⟨heap_setCell_same _ _ _ _ _ _ (heap_setCell_same _ _ _ _ _ _ XB1.out), (Chg.of_below C1.out).trans ((Chg.setCell (B := fun b => b = w.heap.size + 1) (p := ⟨w.heap.size + 1, 0, none⟩) _ rfl _).trans (Chg.setCell (B := fun b => b = w.heap.size + 1) (p := ⟨w.heap.size + 1, 1, none⟩) _ rfl _))⟩
    obtain ⟨hx, hc⟩ := hcut
    obtain ⟨wA, eA⟩ : ∃ z, z = wc := ⟨_, rfl⟩
    subst eA
    have XcA := Lib.hid hx; have CA := Lib.hid hc
    clear hx hc
    go_upto_region 6 with (fail)
    go_cut [] (fun wx => wx.heap[w.heap.size + 1]? = some (.cells (Array.setIfInBounds (Array.setIfInBounds (Array.setIfInBounds (Zn.cells znZ).toArray 0 (.bool (uv y0 == 1))) 1 (.bool (uv y2 == 1))) 2 (.int .u32 (uv (g2.setWidth 32)))) 68 (0, 0)) ∧ Chg (fun b => b = w.heap.size + 1) W wx)
    case first =>
      have cX := (cell_of_row _ _ 2 _ _ _ XcA.out).trans (Array.getElem?_eq_getElem (by simp only [Array.size_setIfInBounds]; exact by decide))
      have fX := frozen_of_row _ _ 2 _ _ XcA.out
      go_wp2_with (go_at_call 56; go_loud (refine (rget_at g o _ cv l 4 4 g2 _ (BV.out.chg CA.out OFF.out) (by have := HL4.out; omega) (by decide) (by decide) Hg2.out).mono ?_; rintro r w' ⟨rfl, rfl⟩))
      go_meet
      exact ⟨heap_setCell_same _ _ _ _ _ _ XcA.out, CA.out.trans (Chg.setCell (B := fun b => b = w.heap.size + 1) (p := ⟨w.heap.size + 1, 2, none⟩) _ rfl _)⟩
    obtain ⟨hx, hc⟩ := hcut
    obtain ⟨wA1, eA1⟩ : ∃ z, z = wc := ⟨_, rfl⟩
    subst eA1
    have XcA1 := Lib.hid hx; have CA1 := Lib.hid hc
    clear hx hc
    go_upto_region 7 with (fail)
    go_cut [] (fun wx => wx.heap[w.heap.size + 1]? = some (.cells (Array.setIfInBounds (Array.setIfInBounds (Array.setIfInBounds (Array.setIfInBounds (Zn.cells znZ).toArray 0 (.bool (uv y0 == 1))) 1 (.bool (uv y2 == 1))) 2 (.int .u32 (uv (g2.setWidth 32)))) 3 (.int .u32 (uv (g3.setWidth 32)))) 68 (0, 0)) ∧ Chg (fun b => b = w.heap.size + 1) W wx)
    case first =>
      have cX := (cell_of_row _ _ 3 _ _ _ XcA1.out).trans (Array.getElem?_eq_getElem (by simp only [Array.size_setIfInBounds]; exact by decide))
      have fX := frozen_of_row _ _ 3 _ _ XcA1.out
      go_wp2_with (go_at_call 56; go_loud (refine (rget_at g o _ cv l 8 4 g3 _ (BV.out.chg CA1.out OFF.out) (by have := HL4.out; omega) (by decide) (by decide) Hg3.out).mono ?_; rintro r w' ⟨rfl, rfl⟩))
      go_meet
      exact ⟨heap_setCell_same _ _ _ _ _ _ XcA1.out, CA1.out.trans (Chg.setCell (B := fun b => b = w.heap.size + 1) (p := ⟨w.heap.size + 1, 3, none⟩) _ rfl _)⟩
    obtain ⟨hx, hc⟩ := hcut
    obtain ⟨wA2, eA2⟩ : ∃ z, z = wc := ⟨_, rfl⟩
    subst eA2
    have XcA2 := Lib.hid hx; have CA2 := Lib.hid hc
    clear hx hc
    go_upto_region 8 with (fail)
    go_cut [] (fun wx => wx.heap[w.heap.size + 1]? = some (.cells (Array.setIfInBounds (Array.setIfInBounds (Array.setIfInBounds (Array.setIfInBounds (Array.setIfInBounds (Zn.cells znZ).toArray 0 (.bool (uv y0 == 1))) 1 (.bool (uv y2 == 1))) 2 (.int .u32 (uv (g2.setWidth 32)))) 3 (.int .u32 (uv (g3.setWidth 32)))) 4 (.int .u64 (uv g4))) 68 (0, 0)) ∧ Chg (fun b => b = w.heap.size + 1) W wx)
    case first =>
      have cX := (cell_of_row _ _ 4 _ _ _ XcA2.out).trans (Array.getElem?_eq_getElem (by simp only [Array.size_setIfInBounds]; exact by decide))
      have fX := frozen_of_row _ _ 4 _ _ XcA2.out
      go_wp2_with (go_at_call 56; go_loud (refine (rget_at g o _ cv l 2816 8 g4 _ (BV.out.chg CA2.out OFF.out) (by have := HL4.out; omega) (by decide) (by decide) Hg4.out).mono ?_; rintro r w' ⟨rfl, rfl⟩))
      go_meet
      exact ⟨heap_setCell_same _ _ _ _ _ _ XcA2.out, CA2.out.trans (Chg.setCell (B := fun b => b = w.heap.size + 1) (p := ⟨w.heap.size + 1, 4, none⟩) _ rfl _)⟩
    obtain ⟨hx, hc⟩ := hcut
    obtain ⟨wA3, eA3⟩ : ∃ z, z = wc := ⟨_, rfl⟩
    subst eA3
    have XcA3 := Lib.hid hx; have CA3 := Lib.hid hc
    clear hx hc
    go_upto_region 9 with (fail)
    go_cut [] (fun wx => wx.heap[w.heap.size + 1]? = some (.cells (Array.setIfInBounds (Array.setIfInBounds (Array.setIfInBounds (Array.setIfInBounds (Array.setIfInBounds (Array.setIfInBounds (Zn.cells znZ).toArray 0 (.bool (uv y0 == 1))) 1 (.bool (uv y2 == 1))) 2 (.int .u32 (uv (g2.setWidth 32)))) 3 (.int .u32 (uv (g3.setWidth 32)))) 4 (.int .u64 (uv g4))) 5 (.int .u8 (uv (g5.setWidth 8)))) 68 (0, 0)) ∧ Chg (fun b => b = w.heap.size + 1) W wx)
    case first =>
      have cX := (cell_of_row _ _ 5 _ _ _ XcA3.out).trans (Array.getElem?_eq_getElem (by simp only [Array.size_setIfInBounds]; exact by decide))
      have fX := frozen_of_row _ _ 5 _ _ XcA3.out
      go_wp2_with (go_at_call 56; go_loud (refine (rget_at g o _ cv l 2824 1 g5 _ (BV.out.chg CA3.out OFF.out) (by have := HL4.out; omega) (by decide) (by decide) Hg5.out).mono ?_; rintro r w' ⟨rfl, rfl⟩))
      go_meet
      exact ⟨heap_setCell_same _ _ _ _ _ _ XcA3.out, CA3.out.trans (Chg.setCell (B := fun b => b = w.heap.size + 1) (p := ⟨w.heap.size + 1, 5, none⟩) _ rfl _)⟩
    obtain ⟨hx, hc⟩ := hcut
    obtain ⟨wB, eB⟩ : ∃ z, z = wc := ⟨_, rfl⟩
    subst eB
    have XcB := Lib.hid hx; have CB := Lib.hid hc
    clear hx hc
    have hxc : wB.heap[w.heap.size + 1]? = some (.cells (Zn.cells (rdZr l)).toArray 68 (0, 0)) := by
      have e : rdZr l = ⟨uv y0 == 1, uv y2 == 1, g2.setWidth 32, g3.setWidth 32, g4, g5.setWidth 8⟩ := by
        unfold rdZr
        rw [HY0.out, HY2.out, Hg2.out, Hg3.out, Hg4.out, Hg5.out, show (some y0 == some 1#8) = (y0 == 1#8) from rfl, show (some y2 == some 1#8) = (y2 == 1#8) from rfl, ← uv_beq, ← uv_beq]
        rfl
      rw [e]
      exact XcB.out
    obtain ⟨x, hx⟩ : ∃ x, rdZr l = x := ⟨_, rfl⟩
    rw [hx] at hxc
    have HX := Lib.hid hx; have XC := Lib.hid hxc
    clear hx hxc XcB
    go_upto_region 10 with (fail)
    obtain ⟨bq, hbq⟩ : ∃ b, (znB x == l) = b := ⟨_, rfl⟩
    have HQ := Lib.hid hbq; clear hbq
    have BVB := Lib.hid (BV.out.chg CB.out OFF.out)
    have AB := Lib.hid (CB.out.blk XA.out (by omega))
    have DB := Lib.hid (CB.out.fresh D.out (fun k h => by omega))
    have qs : ∀ z : KeepT nowhere wB, (convert 28 9 (.slice (some ⟨g, o, none⟩) 4096 cv)).run Try.prog z.val = .ok (.string (strOf l)) z.val := fun z => str_at (BVB.out.keepT z)
    have h3 : ((strOf (znB x)).toList == (strOf l).toList) = bq := by rw [strOf_beq]; exact HQ.out
    have h4 : ((strOf (znB x)).toList != (strOf l).toList) = !bq := by rw [bne, h3]
    refine wp_region_planW nowhere [(true, 0), (true, 3), (true, 4), (false, 1), (false, 2), (true, 5)] (by kernel_rfl) (by kernel_rfl) (by intro c a d v w h; cases d <;> exact h) ?_
    intro W1 K1 C1
    refine wpS_load_row rfl rfl 68 (.tmp 4) rfl (w.heap.size + 1) rfl 68 (Zn.cells x).toArray (0, 0) _ (fun z hz => hz.blk XC.out) Try.underlying68 rfl (by kernel_rfl) ?_
    repeat (refine wpS_firm rfl (fun K hK => ?_); simp only [Keep]; go_simp; refine hK _ ?_; clear hK K)
    refine wpS_chain rfl ?_
    go_wp2_with (go_at_call 26; go_loud (refine (rEncZ_at x _).mono ?_; rintro r w2 ⟨u, rfl, hu, hw⟩; have U := Lib.hid hu; have K2 := Lib.hid (K1.out.below hw); have C2 := Lib.hid (gr_tr C1.out hw); clear hu hw))
    refine ⟨K2.out, ?_⟩
    refine wpS_chain rfl ?_
    have hs2 := str_at U.out
    go_wp2
    refine ⟨K2.out, ?_⟩
    repeat (refine wpS_firm rfl (fun K hK => ?_); simp only [Keep]; go_simp; refine hK _ ?_; clear hK K)
    unfold wpS
    have A2 := Lib.hid (blk_below AB.out C2.out)
    have X2 := Lib.hid (blk_below XC.out C2.out)
    have D2 := Lib.hid (gr_tr DB.out C2.out)
    clear qs h3 h4 hs2
    cases bq
    · skip
      go_wp2_with (refine wpList_store_row rfl 68 (.tmp 2) (.tmp 43) rfl w.heap.size (Zn.cells znZ).toArray rfl rfl 68 _ A2.out (by kernel_rfl) rfl (Zn.cells_one _) ?_)
      obtain ⟨e1, e2⟩ : y = znZ ∧ e = 6 := by
        have h := HD.out
        unfold decV at h
        rw [if_neg (by have := HL4.out; omega), if_neg (by have := HL4.out; omega), HX.out, HQ.out] at h
        simp at h
        exact ⟨h.1.symm, h.2.symm⟩
      rw [e1, e2]
      exact bodyPost_ret (results_row_tmp rfl _ _ w.heap.size 68 (Zn.cells znZ).toArray (0, 0) _ rfl (setRow_heap _ _ _ _ _ _ A2.out) Try.underlying68 rfl (by kernel_rfl)) rfl ⟨rfl, below_setRow D2.out (Nat.le_refl _) _⟩
    · go_wp2_with (first
        | (refine wpList_load_row rfl 68 (.tmp 4) rfl (w.heap.size + 1) rfl 68 _ (0, 0) _ X2.out Try.underlying68 rfl (by kernel_rfl) ?_)
        | (refine wpList_store_row rfl 68 (.tmp 2) (.tmp 44) rfl w.heap.size (Zn.cells x).toArray rfl rfl 68 _ A2.out (by kernel_rfl) rfl (Zn.cells_one _) ?_))
      obtain ⟨e1, e2⟩ : y = x ∧ e = 0 := by
        have h := HD.out
        unfold decV at h
        rw [if_neg (by have := HL4.out; omega), if_neg (by have := HL4.out; omega), HX.out, HQ.out] at h
        simp [okZ] at h
        exact ⟨h.1.symm, h.2.symm⟩
      rw [e1, e2]
      exact bodyPost_ret (results_row_tmp rfl _ _ w.heap.size 68 (Zn.cells x).toArray (0, 0) _ rfl (setRow_heap _ _ _ _ _ _ A2.out) Try.underlying68 rfl (by kernel_rfl)) rfl ⟨rfl, below_setRow D2.out (Nat.le_refl _) _⟩
  · by_cases p1 : l.length < 4096
    · have ec : (if l.length < 4096 then (4 : Int) else if 4096 < l.length then 5 else 0) = 4 := by rw [if_pos p1]
      have EC := Lib.hid ec; clear ec
      go_enter Try.func29, Try.ntmps29
      go_upto_region 2 with (fail)
      first
        | rw [← HW.out]
        | (show Code.wp _ _ _ _ ((w.alloc (.cells (Zn.cells znZ).toArray 68)).alloc (.cells (Zn.cells znZ).toArray 68)); rw [← HW.out])
      go_wp2_with (first
        | (go_at_call 51; go_loud (refine (check_any _ l 4 _ (BV0.out.below D.out) EC.out).mono ?_; rintro r w' ⟨rfl, rfl⟩))
        | (refine wpList_load_row rfl 68 (.tmp 4) rfl (w.heap.size + 1) rfl 68 _ (0, 0) _ XB.out Try.underlying68 rfl (by kernel_rfl) ?_)
        | (refine wpList_store_row rfl 68 (.tmp 2) (.tmp 10) rfl w.heap.size (Zn.cells znZ).toArray rfl rfl 68 _ XA.out (by kernel_rfl) rfl (Zn.cells_one _) ?_))
      obtain ⟨e1, e2⟩ : y = znZ ∧ e = 4 := by
        have h := HD.out
        unfold decV at h
        rw [if_pos p1] at h
        simp at h
        exact ⟨h.1.symm, h.2.symm⟩
      rw [e1, e2]
      exact bodyPost_ret (results_row_tmp rfl _ _ w.heap.size 68 (Zn.cells znZ).toArray (0, 0) _ rfl (setRow_heap _ _ _ _ _ _ XA.out) Try.underlying68 rfl (by kernel_rfl)) rfl ⟨rfl, below_setRow D.out (Nat.le_refl _) _⟩
    · have ec : (if l.length < 4096 then (4 : Int) else if 4096 < l.length then 5 else 0) = 5 := by rw [if_neg p1, if_pos (by omega)]
      have EC := Lib.hid ec; clear ec
      go_enter Try.func29, Try.ntmps29
      go_upto_region 2 with (fail)
      first
        | rw [← HW.out]
        | (show Code.wp _ _ _ _ ((w.alloc (.cells (Zn.cells znZ).toArray 68)).alloc (.cells (Zn.cells znZ).toArray 68)); rw [← HW.out])
      go_wp2_with (first
        | (go_at_call 51; go_loud (refine (check_any _ l 5 _ (BV0.out.below D.out) EC.out).mono ?_; rintro r w' ⟨rfl, rfl⟩))
        | (refine wpList_load_row rfl 68 (.tmp 4) rfl (w.heap.size + 1) rfl 68 _ (0, 0) _ XB.out Try.underlying68 rfl (by kernel_rfl) ?_)
        | (refine wpList_store_row rfl 68 (.tmp 2) (.tmp 10) rfl w.heap.size (Zn.cells znZ).toArray rfl rfl 68 _ XA.out (by kernel_rfl) rfl (Zn.cells_one _) ?_))
      obtain ⟨e1, e2⟩ : y = znZ ∧ e = 5 := by
        have h := HD.out
        unfold decV at h
        rw [if_neg p1, if_pos (by omega)] at h
        simp at h
        exact ⟨h.1.symm, h.2.symm⟩
      rw [e1, e2]
      exact bodyPost_ret (results_row_tmp rfl _ _ w.heap.size 68 (Zn.cells znZ).toArray (0, 0) _ rfl (setRow_heap _ _ _ _ _ _ XA.out) Try.underlying68 rfl (by kernel_rfl)) rfl ⟨rfl, below_setRow D.out (Nat.le_refl _) _⟩
end Go.Proofs.Ytccllneifkeimaa
