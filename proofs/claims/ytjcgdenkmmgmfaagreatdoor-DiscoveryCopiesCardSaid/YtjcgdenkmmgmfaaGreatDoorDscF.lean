/- Discovery: the reference's Record. Printed by gendsce2.py. -/
import Derived.Test.YtjcgdenkmmgmfaaGreatDoorDscE
namespace Go.Proofs.YtjcgdenkmmgmfaaGreatDoor
open Go.RowKit Dsc
set_option linter.unusedVariables false
set_option linter.unusedSimpArgs false
theorem RecAt.chg {w w' : World} {g o : Nat} {r : Rec} {B : Nat → Prop} (h : RecAt w g o r) (hc : Chg B w w') (hn : ¬ B g) : RecAt w' g o r :=
  ⟨hc.cell h.c0 hn, hc.cell h.c1 hn, hc.cell h.c2 hn, hc.cell h.c3 hn, hc.cell h.c4 hn, hc.cell h.c5 hn, hc.cell h.c6 hn, hc.cell h.c7 hn, hc.cell h.c8 hn, hc.cell h.c9 hn⟩
theorem four_set (l : List (BitVec 8)) (hl : 4 ≤ l.length) (a b c d : BitVec 8) : (((l.set 0 a).set 1 b).set 2 c).set 3 d = Lay.lay l 0 [a, b, c, d] := by
  match l, hl with
  | x :: y :: z :: t :: l, _ => rfl
set_option maxHeartbeats 6400000 in
set_option maxRecDepth 20000 in
theorem rRecord_at (r : Rec) (w : World) (hok : r.ok = true) :
    Calls Tryz.prog 56 #[.agg r.cells.toArray] w fun e w' => ∃ u, e = .returned u ∧ w'.ownsRow w.heap.size 5 1 u 1024 (by8 r.bytes) ∧ Below w.heap.size w w' := by
  have PB := Lib.hid (ref_bytes hok)
  have hparts := ok_parts hok
  have SVL := Lib.hid (txOk_len hparts.2.1); have ADL := Lib.hid (txOk_len hparts.2.2.1); have SBL := Lib.hid (show r.sb.length ≤ 256 by have := nmOk_len hparts.2.2.2; omega)
  clear hparts
  obtain ⟨L0, hL0⟩ : ∃ L, List.replicate 1024 0#8 = L := ⟨_, rfl⟩
  rw [hL0] at PB
  have N0 := Lib.hid (show L0.length = 1024 by rw [← hL0]; simp)
  have HL0 := Lib.hid hL0
  obtain ⟨L1, hL1⟩ : ∃ L, Lay.lay L0 0 r.four = L := ⟨_, rfl⟩
  rw [hL1] at PB
  obtain ⟨L2, hL2⟩ : ∃ L, Lay.lay L1 4 (le2 r.po) = L := ⟨_, rfl⟩
  rw [hL2] at PB
  obtain ⟨L3, hL3⟩ : ∃ L, Lay.lay L2 6 (le2 r.ct) = L := ⟨_, rfl⟩
  rw [hL3] at PB
  obtain ⟨L4, hL4⟩ : ∃ L, Lay.lay L3 8 (le2 r.qu) = L := ⟨_, rfl⟩
  rw [hL4] at PB
  obtain ⟨L5, hL5⟩ : ∃ L, Lay.lay L4 32 (padS r.sv 32 32#8) = L := ⟨_, rfl⟩
  rw [hL5] at PB
  obtain ⟨L6, hL6⟩ : ∃ L, Lay.lay L5 256 (padS r.sb 256 0#8) = L := ⟨_, rfl⟩
  rw [hL6] at PB
  have HL1 := Lib.hid hL1; have HL2 := Lib.hid hL2; have HL3 := Lib.hid hL3; have HL4 := Lib.hid hL4; have HL5 := Lib.hid hL5; have HL6 := Lib.hid hL6
  clear hL0 hL1 hL2 hL3 hL4 hL5 hL6
  obtain ⟨W, hW⟩ : ∃ W, W = w.alloc (.cells r.cells.toArray 37) := ⟨_, rfl⟩
  have D := Lib.hid (show Below w.heap.size w W by rw [hW]; exact gr_alloc w _)
  have R := Lib.hid (RecAt.of_row (show W.heap[w.heap.size]? = some (.cells r.cells.toArray 37 (0, 0)) by rw [hW]; exact heap_alloc_new w _))
  have WS := Lib.hid (show W.heap.size = w.heap.size + 1 by rw [hW]; simp)
  have HW := Lib.hid hW
  clear hW
  go_enter Tryz.func56, Tryz.ntmps56
  go_upto_region 1 with fail
  first
    | rw [← HW.out]
    | (show Code.wp _ _ _ _ (w.alloc (.cells r.cells.toArray 37)); rw [← HW.out])
  go_upto_region 2 with (refine make_law bytesOk rfl _ _ rfl W.heap.size .i64 .i64 1024 1024 1024 rfl rfl rfl rfl (by omega) (by omega) (Nat.le_refl _) ?_; intro w1 hown hgrow; rw [by8_made, HL0.out] at hown; have O := Lib.hid hown; have B1 := Lib.hid ((Below.refl W.heap.size W).grown hgrow (Nat.le_refl _) (by intro k hk; cases hk)); clear hown hgrow)
  replace R := Lib.hid (R.out.below B1.out)
  replace D := Lib.hid (gr_tr D.out B1.out)
  clear B1 HW
  obtain ⟨G, hG⟩ : ∃ G, W.heap.size = G := ⟨_, rfl⟩
  rw [hG] at O WS ⊢
  clear hG
  have O0 : Hid (OwnN 1024 w1 (w.heap.size + 1) G 1024 L0) := Lib.hid (own_base O.out (Nat.le_of_eq WS.out.symm))
  clear O
  obtain ⟨V, hV⟩ : ∃ V, V = w1 := ⟨_, rfl⟩
  subst hV
  have NE := Lib.hid (show w.heap.size ≠ G by have := WS.out; omega)
  obtain ⟨c0, c1, c2, c3, c4, c5, c6, c7, c8, c9⟩ := R.out
  simp only [Nat.zero_add] at c0 c1 c2 c3 c4 c5 c6 c7 c8 c9
  have q0 : ∀ y : KeepT (fun k => k = G) V, y.val.cell? ⟨w.heap.size, 0, none⟩ = some (.int .u8 (uv r.tr)) := fun y => y.cell c0 NE.out
  have q1 : ∀ y : KeepT (fun k => k = G) V, y.val.cell? ⟨w.heap.size, 1, none⟩ = some (.int .u8 (uv r.fa)) := fun y => y.cell c1 NE.out
  have q2 : ∀ y : KeepT (fun k => k = G) V, y.val.cell? ⟨w.heap.size, 2, none⟩ = some (.bool r.rf) := fun y => y.cell c2 NE.out
  have q3 : ∀ y : KeepT (fun k => k = G) V, y.val.cell? ⟨w.heap.size, 3, none⟩ = some (.bool r.sc) := fun y => y.cell c3 NE.out
  clear c0 c1 c2 c3 c4 c5 c6 c7 c8 c9
  refine wp_region_planW (fun k => k = G) [(true, 0), (true, 1), (true, 2), (true, 3), (true, 4), (true, 5), (true, 6), (true, 7), (true, 8), (true, 9), (true, 11), (true, 12), (false, 10), (false, 13), (true, 14), (false, 15), (true, 16), (false, 17), (true, 18), (false, 19), (true, 20), (false, 21)] (by kernel_rfl) (by kernel_rfl) (by intro c a d v w h; cases d <;> exact h) ?_
  intro W1 K1 C1
  repeat (refine wpS_firm rfl (fun K hK => ?_); simp only [Keep]; go_simp; refine hK _ ?_; clear hK K)
  refine wpS_chain rfl ?_
  go_wp2_with (go_at_call 69; go_loud (refine (yes_at r.rf _ _ rfl).mono ?_; rintro e w2 ⟨rfl, rfl⟩))
  refine ⟨K1.out, ?_⟩
  repeat (refine wpS_firm rfl (fun K hK => ?_); simp only [Keep]; go_simp; refine hK _ ?_; clear hK K)
  refine wpS_chain rfl ?_
  go_wp2_with (go_at_call 69; go_loud (refine (yes_at r.sc _ _ rfl).mono ?_; rintro e w2 ⟨rfl, rfl⟩))
  refine ⟨K1.out, ?_⟩
  have P1 := Lib.hid (OwnN.below O0.out C1.out)
  have D1 := Lib.hid (gr_tr D.out C1.out)
  have R1 := Lib.hid (R.out.below C1.out)
  clear O0 R D C1
  repeat (refine wpS_firm rfl (fun K hK => ?_); simp only [Keep]; go_simp; refine hK _ ?_; clear hK K)
  obtain ⟨y0, g0, -⟩ := P1.out.at 0 (by decide)
  have f0 := World.ownsRow.frozenAt P1.out 0
  refine wpS_chain rfl ?_
  go_wp2
  refine ⟨K1.out.put rfl _, ?_⟩
  obtain ⟨W2, hW2⟩ : ∃ X, X = W1.setCell ⟨G, 0, none⟩ (.int .u8 (uv r.tr)) := ⟨_, rfl⟩
  have K2 := Lib.hid (show Keep (fun k => k = G) V W2 by rw [hW2]; exact K1.out.put rfl _)
  have P2 := Lib.hid (show OwnN 1024 W2 (w.heap.size + 1) G 1024 (L0.set 0 r.tr) by rw [hW2]; exact P1.out.set 0 r.tr)
  have D2 := Lib.hid (show Below w.heap.size w W2 by rw [hW2]; exact D1.out.setCell (p := ⟨G, 0, none⟩) (by have := P1.out.lt; show w.heap.size ≤ G; omega) _)
  have R2 := Lib.hid (show RecAt W2 w.heap.size 0 r by rw [hW2]; exact R1.out.chg (Chg.setCell (B := fun k => k = G) (p := ⟨G, 0, none⟩) _ rfl _) NE.out)
  rw [← hW2]
  clear hW2 P1 D1 R1 K1 g0 f0
  repeat (refine wpS_firm rfl (fun K hK => ?_); simp only [Keep]; go_simp; refine hK _ ?_; clear hK K)
  obtain ⟨y1, g1, -⟩ := P2.out.at 1 (by decide)
  have f1 := World.ownsRow.frozenAt P2.out 1
  refine wpS_chain rfl ?_
  go_wp2
  refine ⟨K2.out.put rfl _, ?_⟩
  obtain ⟨W3, hW3⟩ : ∃ X, X = W2.setCell ⟨G, 1, none⟩ (.int .u8 (uv r.fa)) := ⟨_, rfl⟩
  have K3 := Lib.hid (show Keep (fun k => k = G) V W3 by rw [hW3]; exact K2.out.put rfl _)
  have P3 := Lib.hid (show OwnN 1024 W3 (w.heap.size + 1) G 1024 ((L0.set 0 r.tr).set 1 r.fa) by rw [hW3]; exact P2.out.set 1 r.fa)
  have D3 := Lib.hid (show Below w.heap.size w W3 by rw [hW3]; exact D2.out.setCell (p := ⟨G, 1, none⟩) (by have := P2.out.lt; show w.heap.size ≤ G; omega) _)
  have R3 := Lib.hid (show RecAt W3 w.heap.size 0 r by rw [hW3]; exact R2.out.chg (Chg.setCell (B := fun k => k = G) (p := ⟨G, 1, none⟩) _ rfl _) NE.out)
  rw [← hW3]
  clear hW3 P2 D2 R2 K2 g1 f1
  repeat (refine wpS_firm rfl (fun K hK => ?_); simp only [Keep]; go_simp; refine hK _ ?_; clear hK K)
  obtain ⟨y2, g2, -⟩ := P3.out.at 2 (by decide)
  have f2 := World.ownsRow.frozenAt P3.out 2
  refine wpS_chain rfl ?_
  go_wp2
  refine ⟨K3.out.put rfl _, ?_⟩
  obtain ⟨W4, hW4⟩ : ∃ X, X = W3.setCell ⟨G, 2, none⟩ (.int .u8 (uv (ch r.rf))) := ⟨_, rfl⟩
  have K4 := Lib.hid (show Keep (fun k => k = G) V W4 by rw [hW4]; exact K3.out.put rfl _)
  have P4 := Lib.hid (show OwnN 1024 W4 (w.heap.size + 1) G 1024 (((L0.set 0 r.tr).set 1 r.fa).set 2 (ch r.rf)) by rw [hW4]; exact P3.out.set 2 (ch r.rf))
  have D4 := Lib.hid (show Below w.heap.size w W4 by rw [hW4]; exact D3.out.setCell (p := ⟨G, 2, none⟩) (by have := P3.out.lt; show w.heap.size ≤ G; omega) _)
  have R4 := Lib.hid (show RecAt W4 w.heap.size 0 r by rw [hW4]; exact R3.out.chg (Chg.setCell (B := fun k => k = G) (p := ⟨G, 2, none⟩) _ rfl _) NE.out)
  rw [← hW4]
  clear hW4 P3 D3 R3 K3 g2 f2
  repeat (refine wpS_firm rfl (fun K hK => ?_); simp only [Keep]; go_simp; refine hK _ ?_; clear hK K)
  obtain ⟨y3, g3, -⟩ := P4.out.at 3 (by decide)
  have f3 := World.ownsRow.frozenAt P4.out 3
  refine wpS_chain rfl ?_
  go_wp2
  refine ⟨K4.out.put rfl _, ?_⟩
  obtain ⟨W5, hW5⟩ : ∃ X, X = W4.setCell ⟨G, 3, none⟩ (.int .u8 (uv (ch r.sc))) := ⟨_, rfl⟩
  have K5 := Lib.hid (show Keep (fun k => k = G) V W5 by rw [hW5]; exact K4.out.put rfl _)
  have P5 := Lib.hid (show OwnN 1024 W5 (w.heap.size + 1) G 1024 ((((L0.set 0 r.tr).set 1 r.fa).set 2 (ch r.rf)).set 3 (ch r.sc)) by rw [hW5]; exact P4.out.set 3 (ch r.sc))
  have D5 := Lib.hid (show Below w.heap.size w W5 by rw [hW5]; exact D4.out.setCell (p := ⟨G, 3, none⟩) (by have := P4.out.lt; show w.heap.size ≤ G; omega) _)
  have R5 := Lib.hid (show RecAt W5 w.heap.size 0 r by rw [hW5]; exact R4.out.chg (Chg.setCell (B := fun k => k = G) (p := ⟨G, 3, none⟩) _ rfl _) NE.out)
  rw [← hW5]
  clear hW5 P4 D4 R4 K4 g3 f3
  unfold wpS
  clear q0 q1 q2 q3 K5
  have P6 := Lib.hid (show OwnN 1024 W5 (w.heap.size + 1) G 1024 L1 by have := P5.out; rw [four_set L0 (by rw [N0.out]; decide)] at this; rw [← HL1.out]; exact this)
  clear P5
  obtain ⟨c0, c1, c2, c3, c4, c5, c6, c7, c8, c9⟩ := R5.out
  simp only [Nat.zero_add] at c0 c1 c2 c3 c4 c5 c6 c7 c8 c9
  clear c0 c1 c2 c3
  go_upto_region 4 with (go_at_call 55; go_loud (refine (little_at 1024 G 1024 _ L1 4 2 (r.po.setWidth 64) _ P6.out (by decide) (by decide) (by decide)).mono ?_; rintro e w7 ⟨rfl, ho, hc⟩; clear c4 c5 c6 c7 c8 c9; have P7 := Lib.hid (show OwnN 1024 w7 (w.heap.size + 1) G 1024 L2 by rw [← HL2.out]; exact ho); have R7 := Lib.hid (R5.out.chg hc NE.out); have D7 := Lib.hid (D5.out.trans (hc.below (fun j hj => by have := P6.out.lt; have hj' : j = G := hj; omega) D5.out.size)); clear ho hc P6 R5 D5; obtain ⟨c0, c1, c2, c3, c4, c5, c6, c7, c8, c9⟩ := R7.out; simp only [Nat.zero_add] at c0 c1 c2 c3 c4 c5 c6 c7 c8 c9))
  go_upto_region 5 with (go_at_call 55; go_loud (refine (little_at 1024 G 1024 _ L2 6 2 (r.ct.setWidth 64) _ P7.out (by decide) (by decide) (by decide)).mono ?_; rintro e w8 ⟨rfl, ho, hc⟩; clear c0 c1 c2 c3 c4 c5 c6 c7 c8 c9; have P8 := Lib.hid (show OwnN 1024 w8 (w.heap.size + 1) G 1024 L3 by rw [← HL3.out]; exact ho); have R8 := Lib.hid (R7.out.chg hc NE.out); have D8 := Lib.hid (D7.out.trans (hc.below (fun j hj => by have := P7.out.lt; have hj' : j = G := hj; omega) D7.out.size)); clear ho hc P7 R7 D7; obtain ⟨c0, c1, c2, c3, c4, c5, c6, c7, c8, c9⟩ := R8.out; simp only [Nat.zero_add] at c0 c1 c2 c3 c4 c5 c6 c7 c8 c9))
  go_upto_region 6 with (go_at_call 55; go_loud (refine (little_at 1024 G 1024 _ L3 8 2 (r.qu.setWidth 64) _ P8.out (by decide) (by decide) (by decide)).mono ?_; rintro e w9 ⟨rfl, ho, hc⟩; clear c0 c1 c2 c3 c4 c5 c6 c7 c8 c9; have P9 := Lib.hid (show OwnN 1024 w9 (w.heap.size + 1) G 1024 L4 by rw [← HL4.out]; exact ho); have R9 := Lib.hid (R8.out.chg hc NE.out); have D9 := Lib.hid (D8.out.trans (hc.below (fun j hj => by have := P8.out.lt; have hj' : j = G := hj; omega) D8.out.size)); clear ho hc P8 R8 D8; obtain ⟨c0, c1, c2, c3, c4, c5, c6, c7, c8, c9⟩ := R9.out; simp only [Nat.zero_add] at c0 c1 c2 c3 c4 c5 c6 c7 c8 c9))
  go_upto_region 7 with (go_at_call 70; go_loud (refine (put_at 1024 G 1024 _ L4 32 32 r.sv 32#8 _ P9.out (by decide) (by decide) SVL.out).mono ?_; rintro e w10 ⟨rfl, ho, hc⟩; clear c0 c1 c2 c3 c4 c5 c6 c7 c8 c9; have P10 := Lib.hid (show OwnN 1024 w10 (w.heap.size + 1) G 1024 L5 by rw [← HL5.out]; exact ho); have R10 := Lib.hid (R9.out.chg hc NE.out); have D10 := Lib.hid (D9.out.trans (hc.below (fun j hj => by have := P9.out.lt; have hj' : j = G := hj; omega) D9.out.size)); clear ho hc P9 R9 D9; obtain ⟨c0, c1, c2, c3, c4, c5, c6, c7, c8, c9⟩ := R10.out; simp only [Nat.zero_add] at c0 c1 c2 c3 c4 c5 c6 c7 c8 c9))
  go_upto_region 8 with (go_at_call 70; go_loud (refine (put_at 1024 G 1024 _ L5 256 256 r.sb 0#8 _ P10.out (by decide) (by decide) SBL.out).mono ?_; rintro e w11 ⟨rfl, ho, hc⟩; clear c0 c1 c2 c3 c4 c5 c6 c7 c8 c9; have P11 := Lib.hid (show OwnN 1024 w11 (w.heap.size + 1) G 1024 L6 by rw [← HL6.out]; exact ho); have R11 := Lib.hid (R10.out.chg hc NE.out); have D11 := Lib.hid (D10.out.trans (hc.below (fun j hj => by have := P10.out.lt; have hj' : j = G := hj; omega) D10.out.size)); clear ho hc P10 R10 D10; obtain ⟨c0, c1, c2, c3, c4, c5, c6, c7, c8, c9⟩ := R11.out; simp only [Nat.zero_add] at c0 c1 c2 c3 c4 c5 c6 c7 c8 c9))
  go_upto_region 9 with (go_at_call 70; go_loud (refine (put_at 1024 G 1024 _ L6 512 256 r.ad 32#8 _ P11.out (by decide) (by decide) ADL.out).mono ?_; rintro e w12 ⟨rfl, ho, hc⟩; clear c0 c1 c2 c3 c4 c5 c6 c7 c8 c9; have P12 := Lib.hid (show OwnN 1024 w12 (w.heap.size + 1) G 1024 r.bytes by rw [← PB.out]; exact ho); have R12 := Lib.hid (R11.out.chg hc NE.out); have D12 := Lib.hid (D11.out.trans (hc.below (fun j hj => by have := P11.out.lt; have hj' : j = G := hj; omega) D11.out.size)); clear ho hc P11 R11 D11; obtain ⟨c0, c1, c2, c3, c4, c5, c6, c7, c8, c9⟩ := R12.out; simp only [Nat.zero_add] at c0 c1 c2 c3 c4 c5 c6 c7 c8 c9))
  go_wp2
  go_ret
  exact ⟨_, rfl, own_base P12.out (by omega), D12.out⟩
end Go.Proofs.YtjcgdenkmmgmfaaGreatDoor
