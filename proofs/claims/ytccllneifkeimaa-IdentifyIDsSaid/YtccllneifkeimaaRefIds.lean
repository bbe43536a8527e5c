/- The reference's identifiers. Printed by genriid.py. -/
import Derived.Test.YtccllneifkeimaaIdIdR
namespace Go.Proofs.Ytccllneifkeimaa
open Go.RowKit Idn
set_option linter.unusedVariables false
set_option linter.unusedSimpArgs false
theorem Keep.from {base : Nat} {w x x' : World} (h : Keep (fun k => base ≤ k) w x) (hb : Below base x x') : Keep (fun k => base ≤ k) w x' := by
  obtain ⟨y, rfl⟩ := h
  exact ⟨⟨x', Nat.le_trans y.size hb.size, fun k hk hn => (hb.block k (Nat.lt_of_not_le hn)).trans (y.block k hk hn)⟩, rfl⟩
set_option maxRecDepth 20000 in
theorem Zeros_at (v : Value) (l : List (BitVec 8)) (b : Bool) (w : World) (hv : BytesV w v l) (hb : l.any nonzero = !b) :
    Calls Try.prog 44 #[v] w fun e w' => e = .returned (.bool b) ∧ w = w' := by
  have hm : l.length ≤ 9223372036854775807 := by obtain ⟨_, c, _, _, h1, h2, _⟩ := hv; omega
  obtain ⟨a, c, rfl, -, -, -, hrow⟩ := id hv
  have ROW := Lib.hid hrow; have HB := Lib.hid hb
  clear hv hrow hb
  go_enter Try.func44, Try.ntmps44
  go_wp2
  go_loop [3] (fun i => ∃ k : Nat, k ≤ l.length ∧ i = .int .i64 k ∧ (l.take k).any nonzero = false) (fun i => l.length - (intOf i).toNat)
  case atStart => exact ⟨0, by omega, rfl, rfl⟩
  case round =>
    obtain ⟨k, hk, rfl, hz⟩ := hrel
    have HZ := Lib.hid hz; clear hz
    by_cases hlt : k < l.length
    · obtain ⟨y, hy⟩ : ∃ y, l[k]? = some y := ⟨l[k], List.getElem?_eq_getElem hlt⟩
      obtain ⟨g, o, rfl, hcell⟩ := ROW.out.at (i := k) (v := .int .u8 (uv y)) (by rw [by8_get, hy]; rfl)
      have HT := Lib.hid (any_take nonzero l k y hy)
      have HH := Lib.hid (fun h => any_hit nonzero l k y hy h)
      clear hy
      obtain ⟨z, hz⟩ : ∃ z, nonzero y = z := ⟨_, rfl⟩
      have hz2 : (uv y != 0) = z := hz
      have HZZ := Lib.hid hz; clear hz
      cases z
      · go_wp2
        go_round
        case rel => exact ⟨k + 1, by omega, by go_num, by rw [HT.out, HZ.out, HZZ.out]; rfl⟩
        case measure => simp [intOf]; omega
      · have hbf : b = false := by
          have := HH.out HZZ.out
          rw [HB.out] at this
          cases b <;> simp_all
        subst hbf
        go_wp2
        go_ret
        exact ⟨rfl, rfl⟩
    · obtain rfl : k = l.length := by omega
      have hbt : b = true := by
        have := HZ.out
        rw [List.take_length, HB.out] at this
        cases b <;> simp_all
      subst hbt
      go_wp2
      go_ret
      exact ⟨rfl, rfl⟩
def sliceLen : Value → Nat | .slice _ n _ => n | _ => 0
set_option maxHeartbeats 6400000 in
set_option maxRecDepth 100000 in
theorem rEncI_at (x : Ids) (w : World) (hx : Ids.Ok x) :
    Calls Try.prog 17 #[.agg (Ids.cells x).toArray] w fun e w' => ∃ u, e = .returned u ∧ BytesV w' u (idsB x) ∧ Below w.heap.size w w' := by
  have HX := Lib.hid hx
  obtain ⟨h1, h2, h3⟩ := id hx
  obtain ⟨W, hW⟩ : ∃ W, W = w.alloc (.cells (Ids.cells x).toArray 44) := ⟨_, rfl⟩
  have BX := Lib.hid (show W.heap[w.heap.size]? = some (.cells (Ids.cells x).toArray 44 (0, 0)) by rw [hW]; exact heap_alloc_new w _)
  have D := Lib.hid (show Below w.heap.size w W by rw [hW]; exact gr_alloc w _)
  have HS := Lib.hid (show w.heap.size < W.heap.size by rw [hW]; simp)
  have HW := Lib.hid hW; clear hW
  obtain ⟨cs, hcs⟩ : ∃ cs, (Ids.cells x).toArray = cs := ⟨_, rfl⟩
  have cl : Ids.cells x = by8 x.e ++ (by8 x.g ++ (by8 x.u ++ [.int .u8 (uv x.set)])) := Ids.cells_eq x
  have FE := Lib.hid (show ∀ W' : World, W'.heap[w.heap.size]? = some (.cells cs 44 (0, 0)) → BytesV W' (.slice (some ⟨w.heap.size, 0, none⟩) 8 8) x.e from fun W' h => ⟨some ⟨w.heap.size, 0, none⟩, 8, by rw [h1], by simp, by omega, by omega, by rw [← hcs] at h; refine row_block h 0 _ ?_; rw [cl, by8_length, List.drop_zero, h1, List.take_left' (by rw [by8_length, h1])]⟩)
  have FG := Lib.hid (show ∀ W' : World, W'.heap[w.heap.size]? = some (.cells cs 44 (0, 0)) → BytesV W' (.slice (some ⟨w.heap.size, 8, none⟩) 16 16) x.g from fun W' h => ⟨some ⟨w.heap.size, 8, none⟩, 16, by rw [h2], by simp, by omega, by omega, by rw [← hcs] at h; refine row_block h 8 _ ?_; rw [cl, by8_length, List.drop_left' (by rw [by8_length, h1]), h2, List.take_left' (by rw [by8_length, h2])]⟩)
  have FU := Lib.hid (show ∀ W' : World, W'.heap[w.heap.size]? = some (.cells cs 44 (0, 0)) → BytesV W' (.slice (some ⟨w.heap.size, 24, none⟩) 16 16) x.u from fun W' h => ⟨some ⟨w.heap.size, 24, none⟩, 16, by rw [h3], by simp, by omega, by omega, by rw [← hcs] at h; refine row_block h 24 _ ?_; rw [cl, ← List.append_assoc, by8_length, List.drop_left' (by rw [List.length_append, by8_length, by8_length, h1, h2]), h3, List.take_left' (by rw [by8_length, h3])]⟩)
  have F40 := Lib.hid (show cs[40]? = some (.int .u8 (uv x.set)) by rw [← hcs, List.getElem?_toArray, cl, ← List.append_assoc, ← List.append_assoc, List.getElem?_append_right (by simp; omega)]; simp [h1, h2, h3])
  rw [hcs] at BX HW ⊢
  have H1 := Lib.hid h1; have H2 := Lib.hid h2; have H3 := Lib.hid h3
  clear hcs cl h1 h2 h3 hx
  go_enter Try.func17, Try.ntmps17
  go_upto_region 1 with (fail)
  rw [← HW.out]
  have PO := Lib.hid (show W.ownsRow W.heap.size 5 1 (.slice none 0 0) (idsO x 0).length (by8 (idsO x 0)) from World.ownsRow_nil _ _ _ _)
  have BO := Lib.hid (Below.refl W.heap.size W)
  have BX0 := Lib.hid BX.out
  obtain ⟨zb, hzb⟩ : ∃ b, (x.e).any nonzero = !b := ⟨!(x.e).any nonzero, by simp⟩
  have HZB := Lib.hid hzb; clear hzb
  go_upto_if 7 with (go_at_call 44; go_loud (refine (Zeros_at _ x.e zb _ (FE.out _ BX0.out) HZB.out).mono ?_; rintro r w' ⟨rfl, rfl⟩))
  go_cut [3] (fun v wx => wx.ownsRow W.heap.size 5 1 v (idsO x 1).length (by8 (idsO x 1)) ∧ Below W.heap.size W wx)
  case first =>
    cases zb
    · have hpart : idsO x 1 = idsO x 0 ++ ([1#8, 8#8, 0#8, 0#8] ++ x.e) := by
        have := idsO_next x 0 ([1#8, 8#8, 0#8, 0#8] ++ x.e) (by rw [show (idsL x)[0]? = some (idPart 0 x.e) from rfl]; unfold idPart; rw [HZB.out, H1.out]; rfl)
        exact this
      have HPT := Lib.hid hpart; clear hpart
      have HPL := Lib.hid (idsO_len x HX.out 0)
      go_wp2
      refine wp_region_planW (fun k => W.heap.size ≤ k) [(true, 0), (true, 3), (true, 4), (false, 1), (false, 2), (false, 5), (true, 6)] (by kernel_rfl) (by kernel_rfl) (by intro c a d v w h; cases d <;> exact h) ?_
      intro W1 K1 C1
      repeat (refine wpS_firm rfl (fun K hK => ?_); simp only [Keep]; go_simp; refine hK _ ?_; clear hK K)
      refine wpS_chain rfl ?_
      go_wp2_with fail
      refine ⟨K1.out.alloc _, ?_⟩
      have K2 := Lib.hid (K1.out.alloc (.cells #[.int .u8 1, .int .u8 8, .int .u8 0, .int .u8 0] 5))
      have G4 := Lib.hid (gr_tr C1.out (gr_alloc W1 (.cells #[.int .u8 1, .int .u8 8, .int .u8 0, .int .u8 0] 5)))
      have L4 := Lib.hid (show BytesV (W1.alloc (.cells #[.int .u8 1, .int .u8 8, .int .u8 0, .int .u8 0] 5)) (.slice (some ⟨W1.heap.size, 0, none⟩) 4 4) [1#8, 8#8, 0#8, 0#8] from ⟨_, _, rfl, by simp, Nat.le_refl _, by simp, Row.lit W1 #[.int .u8 1, .int .u8 8, .int .u8 0, .int .u8 0] 5 (0, 0)⟩)
      have VV := Lib.hid ((FE.out _ BX0.out).below G4.out)
      have BB4 := Lib.hid (BO.out.trans (G4.out.mono BO.out.size))
      refine wpS_chain rfl ?_
      refine app_more rfl (.tmp 8) (.tmp 9) rfl _ W.heap.size (idsO x 0).length (idsO x 0) rfl (own_below PO.out G4.out) BB4.out.size (.slice (some ⟨W1.heap.size, 0, none⟩) 4 4) [1#8, 8#8, 0#8, 0#8] rfl L4.out (by have := HPL.out; simp; omega) ?_
      intro v1 w5 ho hg hb
      have O1 := Lib.hid ho; have K5 := Lib.hid (K2.out.from hb); have B5 := Lib.hid (BB4.out.trans hb)
      have V5 := Lib.hid (BytesV.chg VV.out (Chg.of_grown (B := fun b => W.heap.size ≤ b) hg (fun k hk => ((own_below PO.out G4.out).lt k hk).1)) (fun g o n c e h => by cases e; have := HS.out; omega))
      clear ho hg hb
      go_wp2_with fail
      refine ⟨K5.out, ?_⟩
      refine wpS_chain rfl ?_
      refine app_more rfl (.tmp 10) (.tmp 12) rfl v1 W.heap.size _ ((idsO x 0) ++ [1#8, 8#8, 0#8, 0#8]) rfl O1.out B5.out.size (.slice (some ⟨w.heap.size, 0, none⟩) 8 8) x.e rfl V5.out (by have := HPL.out; have := H1.out; simp; omega) ?_
      intro v2 w6 ho hg hb
      have O2 := Lib.hid ho; have K6 := Lib.hid (K5.out.from hb); have B6 := Lib.hid (B5.out.trans hb)
      clear ho hg hb
      go_wp2_with fail
      refine ⟨K6.out, ?_⟩
      repeat (refine wpS_firm rfl (fun K hK => ?_); simp only [Keep]; go_simp; refine hK _ ?_; clear hK K)
      unfold wpS
      go_wp2
      go_meet
      refine ⟨?_, B6.out⟩
      have h := O2.out
      rw [List.append_assoc] at h
      rw [HPT.out, show ((idsO x 0) ++ ([1#8, 8#8, 0#8, 0#8] ++ x.e)).length = (idsO x 0).length + ([1#8, 8#8, 0#8, 0#8] : List (BitVec 8)).length + (x.e).length by simp only [List.length_append]; omega]
      exact h
    · have hpart : idsO x 1 = idsO x 0 := by
        have := idsO_next x 0 [] (by rw [show (idsL x)[0]? = some (idPart 0 x.e) from rfl]; unfold idPart; rw [HZB.out]; rfl)
        rw [this, List.append_nil]
      have HPT := Lib.hid hpart; clear hpart
      go_wp2
      go_meet
      exact ⟨by rw [HPT.out]; exact PO.out, BO.out⟩
  obtain ⟨hq1, hq2⟩ := hcut
  obtain ⟨wq1, eq1⟩ : ∃ z, z = wc := ⟨_, rfl⟩
  subst eq1
  replace PO := Lib.hid hq1; replace BO := Lib.hid hq2; replace BX0 := Lib.hid (blk_below BX.out hq2)
  clear hq1 hq2 HZB zb
  obtain ⟨zb, hzb⟩ : ∃ b, (x.g).any nonzero = !b := ⟨!(x.g).any nonzero, by simp⟩
  have HZB := Lib.hid hzb; clear hzb
  go_upto_if 17 with (go_at_call 44; go_loud (refine (Zeros_at _ x.g zb _ (FG.out _ BX0.out) HZB.out).mono ?_; rintro r w' ⟨rfl, rfl⟩))
  go_cut [3] (fun v wx => wx.ownsRow W.heap.size 5 1 v (idsO x 2).length (by8 (idsO x 2)) ∧ Below W.heap.size W wx)
  case first =>
    cases zb
    · have hpart : idsO x 2 = idsO x 1 ++ ([2#8, 16#8, 0#8, 0#8] ++ x.g) := by
        have := idsO_next x 1 ([2#8, 16#8, 0#8, 0#8] ++ x.g) (by rw [show (idsL x)[1]? = some (idPart 1 x.g) from rfl]; unfold idPart; rw [HZB.out, H2.out]; rfl)
        exact this
      have HPT := Lib.hid hpart; clear hpart
      have HPL := Lib.hid (idsO_len x HX.out 1)
      go_wp2
      refine wp_region_planW (fun k => W.heap.size ≤ k) [(true, 0), (true, 3), (true, 4), (false, 1), (false, 2), (false, 5), (true, 6)] (by kernel_rfl) (by kernel_rfl) (by intro c a d v w h; cases d <;> exact h) ?_
      intro W1 K1 C1
      repeat (refine wpS_firm rfl (fun K hK => ?_); simp only [Keep]; go_simp; refine hK _ ?_; clear hK K)
      refine wpS_chain rfl ?_
      go_wp2_with fail
      refine ⟨K1.out.alloc _, ?_⟩
      have K2 := Lib.hid (K1.out.alloc (.cells #[.int .u8 2, .int .u8 16, .int .u8 0, .int .u8 0] 5))
      have G4 := Lib.hid (gr_tr C1.out (gr_alloc W1 (.cells #[.int .u8 2, .int .u8 16, .int .u8 0, .int .u8 0] 5)))
      have L4 := Lib.hid (show BytesV (W1.alloc (.cells #[.int .u8 2, .int .u8 16, .int .u8 0, .int .u8 0] 5)) (.slice (some ⟨W1.heap.size, 0, none⟩) 4 4) [2#8, 16#8, 0#8, 0#8] from ⟨_, _, rfl, by simp, Nat.le_refl _, by simp, Row.lit W1 #[.int .u8 2, .int .u8 16, .int .u8 0, .int .u8 0] 5 (0, 0)⟩)
      have VV := Lib.hid ((FG.out _ BX0.out).below G4.out)
      have BB4 := Lib.hid (BO.out.trans (G4.out.mono BO.out.size))
      refine wpS_chain rfl ?_
      refine app_more rfl (.tmp 18) (.tmp 19) rfl _ W.heap.size (idsO x 1).length (idsO x 1) rfl (own_below PO.out G4.out) BB4.out.size (.slice (some ⟨W1.heap.size, 0, none⟩) 4 4) [2#8, 16#8, 0#8, 0#8] rfl L4.out (by have := HPL.out; simp; omega) ?_
      intro v1 w5 ho hg hb
      have O1 := Lib.hid ho; have K5 := Lib.hid (K2.out.from hb); have B5 := Lib.hid (BB4.out.trans hb)
      have V5 := Lib.hid (BytesV.chg VV.out (Chg.of_grown (B := fun b => W.heap.size ≤ b) hg (fun k hk => ((own_below PO.out G4.out).lt k hk).1)) (fun g o n c e h => by cases e; have := HS.out; omega))
      clear ho hg hb
      go_wp2_with fail
      refine ⟨K5.out, ?_⟩
      refine wpS_chain rfl ?_
      refine app_more rfl (.tmp 20) (.tmp 22) rfl v1 W.heap.size _ ((idsO x 1) ++ [2#8, 16#8, 0#8, 0#8]) rfl O1.out B5.out.size (.slice (some ⟨w.heap.size, 8, none⟩) 16 16) x.g rfl V5.out (by have := HPL.out; have := H2.out; simp; omega) ?_
      intro v2 w6 ho hg hb
      have O2 := Lib.hid ho; have K6 := Lib.hid (K5.out.from hb); have B6 := Lib.hid (B5.out.trans hb)
      clear ho hg hb
      go_wp2_with fail
      refine ⟨K6.out, ?_⟩
      repeat (refine wpS_firm rfl (fun K hK => ?_); simp only [Keep]; go_simp; refine hK _ ?_; clear hK K)
      unfold wpS
      go_wp2
      go_meet
      refine ⟨?_, B6.out⟩
      have h := O2.out
      rw [List.append_assoc] at h
      rw [HPT.out, show ((idsO x 1) ++ ([2#8, 16#8, 0#8, 0#8] ++ x.g)).length = (idsO x 1).length + ([2#8, 16#8, 0#8, 0#8] : List (BitVec 8)).length + (x.g).length by simp only [List.length_append]; omega]
      exact h
    · have hpart : idsO x 2 = idsO x 1 := by
        have := idsO_next x 1 [] (by rw [show (idsL x)[1]? = some (idPart 1 x.g) from rfl]; unfold idPart; rw [HZB.out]; rfl)
        rw [this, List.append_nil]
      have HPT := Lib.hid hpart; clear hpart
      go_wp2
      go_meet
      exact ⟨by rw [HPT.out]; exact PO.out, BO.out⟩
  obtain ⟨hq1, hq2⟩ := hcut
  obtain ⟨wq2, eq2⟩ : ∃ z, z = wc := ⟨_, rfl⟩
  subst eq2
  replace PO := Lib.hid hq1; replace BO := Lib.hid hq2; replace BX0 := Lib.hid (blk_below BX.out hq2)
  clear hq1 hq2 HZB zb
  obtain ⟨zb, hzb⟩ : ∃ b, (x.u).any nonzero = !b := ⟨!(x.u).any nonzero, by simp⟩
  have HZB := Lib.hid hzb; clear hzb
  go_upto_if 27 with (go_at_call 44; go_loud (refine (Zeros_at _ x.u zb _ (FU.out _ BX0.out) HZB.out).mono ?_; rintro r w' ⟨rfl, rfl⟩))
  go_cut [3] (fun v wx => wx.ownsRow W.heap.size 5 1 v (idsO x 3).length (by8 (idsO x 3)) ∧ Below W.heap.size W wx)
  case first =>
    cases zb
    · have hpart : idsO x 3 = idsO x 2 ++ ([3#8, 16#8, 0#8, 0#8] ++ x.u) := by
        have := idsO_next x 2 ([3#8, 16#8, 0#8, 0#8] ++ x.u) (by rw [show (idsL x)[2]? = some (idPart 2 x.u) from rfl]; unfold idPart; rw [HZB.out, H3.out]; rfl)
        exact this
      have HPT := Lib.hid hpart; clear hpart
      have HPL := Lib.hid (idsO_len x HX.out 2)
      go_wp2
      refine wp_region_planW (fun k => W.heap.size ≤ k) [(true, 0), (true, 3), (true, 4), (false, 1), (false, 2), (false, 5), (true, 6)] (by kernel_rfl) (by kernel_rfl) (by intro c a d v w h; cases d <;> exact h) ?_
      intro W1 K1 C1
      repeat (refine wpS_firm rfl (fun K hK => ?_); simp only [Keep]; go_simp; refine hK _ ?_; clear hK K)
      refine wpS_chain rfl ?_
      go_wp2_with fail
      refine ⟨K1.out.alloc _, ?_⟩
      have K2 := Lib.hid (K1.out.alloc (.cells #[.int .u8 3, .int .u8 16, .int .u8 0, .int .u8 0] 5))
      have G4 := Lib.hid (gr_tr C1.out (gr_alloc W1 (.cells #[.int .u8 3, .int .u8 16, .int .u8 0, .int .u8 0] 5)))
      have L4 := Lib.hid (show BytesV (W1.alloc (.cells #[.int .u8 3, .int .u8 16, .int .u8 0, .int .u8 0] 5)) (.slice (some ⟨W1.heap.size, 0, none⟩) 4 4) [3#8, 16#8, 0#8, 0#8] from ⟨_, _, rfl, by simp, Nat.le_refl _, by simp, Row.lit W1 #[.int .u8 3, .int .u8 16, .int .u8 0, .int .u8 0] 5 (0, 0)⟩)
      have VV := Lib.hid ((FU.out _ BX0.out).below G4.out)
      have BB4 := Lib.hid (BO.out.trans (G4.out.mono BO.out.size))
      refine wpS_chain rfl ?_
      refine app_more rfl (.tmp 28) (.tmp 29) rfl _ W.heap.size (idsO x 2).length (idsO x 2) rfl (own_below PO.out G4.out) BB4.out.size (.slice (some ⟨W1.heap.size, 0, none⟩) 4 4) [3#8, 16#8, 0#8, 0#8] rfl L4.out (by have := HPL.out; simp; omega) ?_
      intro v1 w5 ho hg hb
      have O1 := Lib.hid ho; have K5 := Lib.hid (K2.out.from hb); have B5 := Lib.hid (BB4.out.trans hb)
      have V5 := Lib.hid (BytesV.chg VV.out (Chg.of_grown (B := fun b => W.heap.size ≤ b) hg (fun k hk => ((own_below PO.out G4.out).lt k hk).1)) (fun g o n c e h => by cases e; have := HS.out; omega))
      clear ho hg hb
      go_wp2_with fail
      refine ⟨K5.out, ?_⟩
      refine wpS_chain rfl ?_
      refine app_more rfl (.tmp 30) (.tmp 32) rfl v1 W.heap.size _ ((idsO x 2) ++ [3#8, 16#8, 0#8, 0#8]) rfl O1.out B5.out.size (.slice (some ⟨w.heap.size, 24, none⟩) 16 16) x.u rfl V5.out (by have := HPL.out; have := H3.out; simp; omega) ?_
      intro v2 w6 ho hg hb
      have O2 := Lib.hid ho; have K6 := Lib.hid (K5.out.from hb); have B6 := Lib.hid (B5.out.trans hb)
      clear ho hg hb
      go_wp2_with fail
      refine ⟨K6.out, ?_⟩
      repeat (refine wpS_firm rfl (fun K hK => ?_); simp only [Keep]; go_simp; refine hK _ ?_; clear hK K)
      unfold wpS
      go_wp2
      go_meet
      refine ⟨?_, B6.out⟩
      have h := O2.out
      rw [List.append_assoc] at h
      rw [HPT.out, show ((idsO x 2) ++ ([3#8, 16#8, 0#8, 0#8] ++ x.u)).length = (idsO x 2).length + ([3#8, 16#8, 0#8, 0#8] : List (BitVec 8)).length + (x.u).length by simp only [List.length_append]; omega]
      exact h
    · have hpart : idsO x 3 = idsO x 2 := by
        have := idsO_next x 2 [] (by rw [show (idsL x)[2]? = some (idPart 2 x.u) from rfl]; unfold idPart; rw [HZB.out]; rfl)
        rw [this, List.append_nil]
      have HPT := Lib.hid hpart; clear hpart
      go_wp2
      go_meet
      exact ⟨by rw [HPT.out]; exact PO.out, BO.out⟩
  obtain ⟨hq1, hq2⟩ := hcut
  obtain ⟨wq3, eq3⟩ : ∃ z, z = wc := ⟨_, rfl⟩
  subst eq3
  replace PO := Lib.hid hq1; replace BO := Lib.hid hq2; replace BX0 := Lib.hid (blk_below BX.out hq2)
  clear hq1 hq2 HZB zb
  obtain ⟨sb, hsb⟩ : ∃ b, nonzero x.set = b := ⟨_, rfl⟩
  have hgt : decide (0 < uv x.set) = sb := by
    rw [← hsb]; unfold nonzero
    have h0 := uv_nonneg x.set
    by_cases h : uv x.set = 0
    · rw [h]; rfl
    · rw [decide_eq_true (by omega)]; simp [h]
  have HSB := Lib.hid hsb; clear hsb
  have k40 := (cell_of_row _ _ 40 _ _ _ BX0.out).trans F40.out
  go_upto_if 36 with (fail)
  go_cut [3] (fun v wx => wx.ownsRow W.heap.size 5 1 v (idsO x 4).length (by8 (idsO x 4)) ∧ Below W.heap.size W wx)
  case first =>
    cases sb
    · have hpart : idsO x 4 = idsO x 3 := by
        have := idsO_next x 3 [] (by rw [show (idsL x)[3]? = some (if nonzero x.set then [4#8, 1#8, 0#8, 0#8, x.set - 1#8] else []) from rfl, HSB.out]; rfl)
        rw [this, List.append_nil]
      have HPT := Lib.hid hpart; clear hpart
      go_wp2
      go_meet
      exact ⟨by rw [HPT.out]; exact PO.out, BO.out⟩
    · have hpart : idsO x 4 = idsO x 3 ++ [4#8, 1#8, 0#8, 0#8, x.set - 1#8] := by
        have := idsO_next x 3 [4#8, 1#8, 0#8, 0#8, x.set - 1#8] (by rw [show (idsL x)[3]? = some (if nonzero x.set then [4#8, 1#8, 0#8, 0#8, x.set - 1#8] else []) from rfl, HSB.out]; rfl)
        exact this
      have HPT := Lib.hid hpart; clear hpart
      have HPL := Lib.hid (idsO_len x HX.out 3)
      have G5 := Lib.hid (gr_alloc wq3 (.cells #[.int .u8 4, .int .u8 1, .int .u8 0, .int .u8 0, .int .u8 (uv (x.set - 1#8))] 5))
      have L5 := Lib.hid (show BytesV (wq3.alloc (.cells #[.int .u8 4, .int .u8 1, .int .u8 0, .int .u8 0, .int .u8 (uv (x.set - 1#8))] 5)) (.slice (some ⟨wq3.heap.size, 0, none⟩) 5 5) [4#8, 1#8, 0#8, 0#8, x.set - 1#8] from ⟨_, _, rfl, by simp, Nat.le_refl _, by simp, Row.lit wq3 #[.int .u8 4, .int .u8 1, .int .u8 0, .int .u8 0, .int .u8 (uv (x.set - 1#8))] 5 (0, 0)⟩)
      go_wp2_with (at_builtin; refine app_more rfl (.tmp 37) (.tmp 41) rfl _ W.heap.size (idsO x 3).length (idsO x 3) rfl (own_below PO.out G5.out) (Nat.le_trans BO.out.size G5.out.size) (.slice (some ⟨wq3.heap.size, 0, none⟩) 5 5) [4#8, 1#8, 0#8, 0#8, x.set - 1#8] rfl L5.out (by have := HPL.out; simp; omega) ?_; intro v2 w6 ho hg hb; have O2 := Lib.hid ho; have B6 := Lib.hid ((BO.out.trans (G5.out.mono BO.out.size)).trans hb); clear ho hg hb)
      go_meet
      exact ⟨by rw [HPT.out, List.length_append]; exact O2.out, B6.out⟩
  obtain ⟨hq1, hq2⟩ := hcut
  obtain ⟨wq4, eq4⟩ : ∃ z, z = wc := ⟨_, rfl⟩
  subst eq4
  replace PO := Lib.hid hq1; replace BO := Lib.hid hq2
  clear hq1 hq2 HSB hgt k40 BX0 FE FG FU F40
  have HPL := Lib.hid (idsO_len x HX.out 4)
  obtain ⟨P, hP⟩ : ∃ P, idsO x 4 = P := ⟨_, rfl⟩
  rw [hP] at PO HPL
  have HP := Lib.hid hP; clear hP
  go_wp2
  go_loopw [3] (fun v wr => ∃ j : Nat, P.length + j ≤ 4096 ∧ wr.ownsRow W.heap.size 5 1 v (P.length + j) (by8 (P ++ List.replicate j 0#8)) ∧ Below W.heap.size W wr) (fun v _ => 4096 - sliceLen v)
  case atStart => exact ⟨0, by have := HPL.out; omega, by rw [List.replicate_zero, List.append_nil]; exact PO.out, BO.out⟩
  case round =>
    obtain ⟨j, hj, ho, hb⟩ := hrel
    obtain ⟨ad, c, rfl⟩ := own_shapeR ho
    have O := Lib.hid ho; have B := Lib.hid hb; clear ho hb
    obtain ⟨m, hm⟩ : ∃ m, P.length + j = m := ⟨_, rfl⟩
    rw [hm] at hj O ⊢
    have HMM := Lib.hid hm; clear hm
    by_cases hlt : m < 4096
    · have hm64 : (m : Int) ≤ 9223372036854775807 := by omega
      go_wp2_with (at_builtin; refine app_one rfl (.tmp 46) (.tmp 47) rfl _ W.heap.size m (P ++ List.replicate j 0#8) rfl O.out B.out.size 0#8 rfl (by omega) ?_; intro v2 w6 ho hb; have O2 := Lib.hid ho; have B6 := Lib.hid (B.out.trans hb); clear ho hb)
      go_roundw
      case rel => exact ⟨j + 1, by have := HMM.out; omega, by rw [← Nat.add_assoc, HMM.out, List.replicate_succ', ← List.append_assoc]; exact O2.out, B6.out⟩
      case measure =>
        obtain ⟨a2, c2, rfl⟩ := own_shapeR O2.out
        simp [sliceLen]; omega
    · obtain rfl : m = 4096 := by omega
      go_wp2
      go_ret
      refine ⟨_, rfl, ?_, D.out.trans (B.out.mono D.out.size)⟩
      have hl : (P ++ List.replicate j 0#8).length = 4096 := by rw [List.length_append, List.length_replicate]; exact HMM.out
      have e : idsB x = P ++ List.replicate j 0#8 := by unfold idsB; rw [HP.out, show 4096 - P.length = j by have := HMM.out; omega]
      rw [e]
      exact BytesV.of_own (by rw [hl]; exact O.out)
end Go.Proofs.Ytccllneifkeimaa
