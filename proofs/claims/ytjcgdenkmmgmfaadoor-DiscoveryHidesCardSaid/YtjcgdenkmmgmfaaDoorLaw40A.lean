/- Discovery: the walk of DiscoveryEncodes. Printed by genlaw40a.py. -/
import Derived.Test.YtjcgdenkmmgmfaaDoorDscW
import Derived.Test.YtjcgdenkmmgmfaaDoorDscH
import Derived.Test.YtjcgdenkmmgmfaaDoorOpenG
namespace Go.Proofs.YtjcgdenkmmgmfaaDoor
open Go.RowKit Go.Shelf Dsc
set_option linter.unusedVariables false
set_option linter.unusedSimpArgs false
attribute [local go_sem] Oper.semAt_some
namespace Dsc
def Rec.R (w : World) (x : Rec) : Prop := True ∧ True ∧ True ∧ True ∧ True ∧ True ∧ True ∧ x.sv.length ≤ 9223372036854775807 ∧ x.sb.length ≤ 9223372036854775807 ∧ x.ad.length ≤ 9223372036854775807
theorem Rec.cells_len : ∀ y, (Rec.cells y).length = 10 := fun _ => rfl
set_option maxRecDepth 100000 in
theorem opens_Rec (w : World) : Opens Tryd.prog w 30 Rec Rec.cells (Rec.R w) := by
  intro H enc sp held fuel cs x h
  obtain ⟨hl, hfs⟩ := trod_fields Tryd.underlying30 h
  rw [show Tryd.prog.cellsOf 30 = 10 by kernel_rfl] at hl
  obtain ⟨y0, a0, r0⟩ := opens_field hfs 0 _ rfl 0 1 rfl (by kernel_rfl) (opens_u8 Tryd.underlying5)
  obtain ⟨y1, a1, r1⟩ := opens_field hfs 1 _ rfl 1 1 rfl (by kernel_rfl) (opens_u8 Tryd.underlying5)
  obtain ⟨y2, a2, r2⟩ := opens_field hfs 2 _ rfl 2 1 rfl (by kernel_rfl) (opens_bool Tryd.underlying4)
  obtain ⟨y3, a3, r3⟩ := opens_field hfs 3 _ rfl 3 1 rfl (by kernel_rfl) (opens_bool Tryd.underlying4)
  obtain ⟨y4, a4, r4⟩ := opens_field hfs 4 _ rfl 4 1 rfl (by kernel_rfl) (opens_u16 Tryd.underlying28)
  obtain ⟨y5, a5, r5⟩ := opens_field hfs 5 _ rfl 5 1 rfl (by kernel_rfl) (opens_u16 Tryd.underlying28)
  obtain ⟨y6, a6, r6⟩ := opens_field hfs 6 _ rfl 6 1 rfl (by kernel_rfl) (opens_u16 Tryd.underlying28)
  obtain ⟨y7, a7, r7⟩ := opens_field hfs 7 _ rfl 7 1 rfl (by kernel_rfl) (opens_str Tryd.underlying9)
  obtain ⟨y8, a8, r8⟩ := opens_field hfs 8 _ rfl 8 1 rfl (by kernel_rfl) (opens_str Tryd.underlying9)
  obtain ⟨y9, a9, r9⟩ := opens_field hfs 9 _ rfl 9 1 rfl (by kernel_rfl) (opens_str Tryd.underlying9)
  have e := (glue a0 (by decide : 0 + 1 = 1) (glue a1 (by decide : 1 + 1 = 2) (glue a2 (by decide : 2 + 1 = 3) (glue a3 (by decide : 3 + 1 = 4) (glue a4 (by decide : 4 + 1 = 5) (glue a5 (by decide : 5 + 1 = 6) (glue a6 (by decide : 6 + 1 = 7) (glue a7 (by decide : 7 + 1 = 8) (glue a8 (by decide : 8 + 1 = 9) (glue a9 (by decide : 9 + 1 = 10) (glue_end hl)))))))))))
  rw [List.drop_zero] at e
  exact ⟨⟨y0, y1, y2, y3, y4, y5, y6, y7, y8, y9⟩, e, ⟨r0, r1, r2, r3, r4, r5, r6, r7, r8, r9⟩⟩
structure DLog where
  g : BitVec 64
  rs : Value
def DLog.cells (x : DLog) : List Value := [.int .u64 (uv x.g), x.rs]
def DLog.R (w : World) (x : DLog) : Prop := True ∧ (∃ xs, SliceV w Rec.cells x.rs xs ∧ ∀ y ∈ xs, (Rec.R w) y)
theorem DLog.cells_len : ∀ y, (DLog.cells y).length = 2 := fun _ => rfl
set_option maxRecDepth 100000 in
theorem opens_DLog (w : World) : Opens Tryd.prog w 25 DLog DLog.cells (DLog.R w) := by
  intro H enc sp held fuel cs x h
  obtain ⟨hl, hfs⟩ := trod_fields Tryd.underlying25 h
  rw [show Tryd.prog.cellsOf 25 = 2 by kernel_rfl] at hl
  obtain ⟨y0, a0, r0⟩ := opens_field hfs 0 _ rfl 0 1 rfl (by kernel_rfl) (opens_u64 Tryd.underlying22)
  obtain ⟨y1, a1, r1⟩ := opens_field hfs 1 _ rfl 1 1 rfl (by kernel_rfl) ((opens_slice (k := 10) Tryd.underlying23 (by kernel_rfl) (by decide) Rec.cells_len ((opens_Rec w))))
  have e := (glue a0 (by decide : 0 + 1 = 1) (glue a1 (by decide : 1 + 1 = 2) (glue_end hl)))
  rw [List.drop_zero] at e
  exact ⟨⟨y0, y1⟩, e, ⟨r0, r1⟩⟩
theorem Rec.R.fit {w : World} {r : Rec} (h : Rec.R w r) : r.Fit := ⟨h.2.2.2.2.2.2.2.1, h.2.2.2.2.2.2.2.2.1, h.2.2.2.2.2.2.2.2.2⟩
end Dsc
theorem long_at (r : Rec) (w : World) :
    Calls Tryd.prog 9 #[.agg r.cells.toArray] w fun e w' => ∃ z, e = .returned (.bool z) ∧ Below w.heap.size w w' := by
  obtain ⟨W, hW⟩ : ∃ W, W = w.alloc (.cells r.cells.toArray 30) := ⟨_, rfl⟩
  have D := Lib.hid (show Below w.heap.size w W by rw [hW]; exact gr_alloc w _)
  have X := Lib.hid (show W.heap[w.heap.size]? = some (.cells r.cells.toArray 30 (0, 0)) by rw [hW]; exact heap_alloc_new w _)
  have HW := Lib.hid hW
  clear hW
  obtain ⟨s1, h1⟩ : ∃ s, strOf r.sv = s := ⟨_, rfl⟩
  obtain ⟨s2, h2⟩ : ∃ s, strOf r.sb = s := ⟨_, rfl⟩
  obtain ⟨s3, h3⟩ : ∃ s, strOf r.ad = s := ⟨_, rfl⟩
  have q7 : W.cell? ⟨w.heap.size, 7, none⟩ = some (.string s1) := by rw [← h1]; exact (cell_of_row _ _ 7 _ _ _ X.out).trans rfl
  have q8 : W.cell? ⟨w.heap.size, 8, none⟩ = some (.string s2) := by rw [← h2]; exact (cell_of_row _ _ 8 _ _ _ X.out).trans rfl
  have q9 : W.cell? ⟨w.heap.size, 9, none⟩ = some (.string s3) := by rw [← h3]; exact (cell_of_row _ _ 9 _ _ _ X.out).trans rfl
  obtain ⟨cr, hcr⟩ : ∃ c, r.cells.toArray = c := ⟨_, rfl⟩
  rw [hcr] at HW ⊢
  clear h1 h2 h3 hcr X
  obtain ⟨n1, e1⟩ : ∃ n, s1.size = n := ⟨_, rfl⟩
  obtain ⟨n2, e2⟩ : ∃ n, s2.size = n := ⟨_, rfl⟩
  obtain ⟨n3, e3⟩ : ∃ n, s3.size = n := ⟨_, rfl⟩
  go_enter Tryd.func9, Tryd.ntmps9
  go_upto_region 1 with fail
  rw [← HW.out]
  by_cases g1 : (400 : Int) < (n1 : Int)
  · go_wp2
    go_ret
    first | exact ⟨.inr rfl, D.out⟩ | exact ⟨.inl rfl, D.out⟩ | exact ⟨_, rfl, D.out⟩
  · by_cases g2 : (400 : Int) < (n2 : Int)
    · go_wp2
      go_ret
      first | exact ⟨.inr rfl, D.out⟩ | exact ⟨.inl rfl, D.out⟩ | exact ⟨_, rfl, D.out⟩
    · by_cases g3 : (400 : Int) < (n3 : Int)
      · go_wp2
        go_ret
        first | exact ⟨.inr rfl, D.out⟩ | exact ⟨.inl rfl, D.out⟩ | exact ⟨_, rfl, D.out⟩
      · go_wp2
        go_ret
        first | exact ⟨.inr rfl, D.out⟩ | exact ⟨.inl rfl, D.out⟩ | exact ⟨_, rfl, D.out⟩
set_option maxHeartbeats 6400000 in
set_option maxRecDepth 20000 in
theorem lawEncodes (g : BitVec 64) (v : Value) (rs : List Rec) (w : World) (hv : SliceV w Dsc.Rec.cells v rs) (hfit : ∀ r ∈ rs, r.Fit) :
    Calls Tryd.prog 3 #[.agg #[.int .u64 (uv g), v]] w fun e w' => e = .returned (.bool true) ∧ Below w.heap.size w w' := by
  have HFIT := Lib.hid hfit
  have SV := Lib.hid hv
  obtain ⟨a, c, hva, -⟩ := id hv
  subst hva
  clear hfit hv
  obtain ⟨n, hn⟩ : ∃ n, rs.length = n := ⟨_, rfl⟩
  have HN := Lib.hid hn
  rw [hn] at SV ⊢
  clear hn
  obtain ⟨W, hW⟩ : ∃ W, W = w.alloc (.cells #[.int .u64 (uv g), .slice a n c] 25) := ⟨_, rfl⟩
  have DX := Lib.hid (show Below w.heap.size w W by rw [hW]; exact gr_alloc w _)
  have X := Lib.hid (show W.heap[w.heap.size]? = some (.cells #[.int .u64 (uv g), .slice a n c] 25 (0, 0)) by rw [hW]; exact heap_alloc_new w _)
  have SW := Lib.hid (SV.out.below DX.out)
  have x1 : W.cell? ⟨w.heap.size, 1, none⟩ = some (.slice a n c) := (cell_of_row _ _ 1 _ _ _ X.out).trans rfl
  have HW := Lib.hid hW
  clear hW SV
  go_enter Tryd.func3, Tryd.ntmps3
  go_upto_region 1 with fail
  rw [← HW.out]
  clear HW
  by_cases g1 : (300 : Int) < (n : Int)
  · go_wp2_with (go_at_call 8; go_loud (refine (known_any _).mono ?_; rintro e w9 ⟨rfl, hw⟩; have D9 := Lib.hid (gr_tr DX.out hw); clear hw))
    go_ret
    exact ⟨rfl, D9.out⟩
  · by_cases g2 : (8 : Int) < (n : Int) ∧ (n : Int) < 257
    · obtain ⟨g2, g3⟩ := g2
      go_wp2_with (go_at_call 8; go_loud (refine (known_any _).mono ?_; rintro e w9 ⟨rfl, hw⟩; have D9 := Lib.hid (gr_tr DX.out hw); clear hw))
      go_ret
      exact ⟨rfl, D9.out⟩
    · have HN3 := Lib.hid (show n ≤ 300 by omega)
      by_cases g4 : (8 : Int) < (n : Int)
      · have g5 : ¬ ((n : Int) < 257) := fun h => g2 ⟨g4, h⟩
        clear g2
        go_upto_region 3 with fail
        clear g4 g5
        clear g1 x1
        go_wp2
        go_loopw [3] (fun i wr => ∃ k : Nat, k ≤ n ∧ i = .int .i64 k ∧ Below W.heap.size W wr) (fun i _ => n - (intOf i).toNat)
        case atStart => exact ⟨0, by omega, rfl, Below.refl _ _⟩
        case round =>
          obtain ⟨k, hk, rfl, hb⟩ := hrel
          have CK := Lib.hid hb
          clear hb
          have XK := Lib.hid (blk_below X.out CK.out)
          have x1 : wr.cell? ⟨w.heap.size, 1, none⟩ = some (.slice a n c) := (cell_of_row _ _ 1 _ _ _ XK.out).trans rfl
          by_cases hlt : k < n
          · obtain ⟨r, hr⟩ : ∃ r, rs[k]? = some r := ⟨_, List.getElem?_eq_getElem (by rw [HN.out]; exact hlt)⟩
            obtain ⟨gq, o, cq, he, hrng⟩ := SliceV.rng rec_len SW.out k r hr (by decide)
            injection he with he1 he2 he3
            subst he1; subst he3
            have RNG := Lib.hid (rng_below hrng CK.out)
            have FR := Lib.hid (HFIT.out r (List.mem_of_getElem? hr))
            obtain ⟨b, hb⟩ : ∃ b, r.ok = b := ⟨_, rfl⟩
            have VALH := Lib.hid (fun w => Valid_at r b w FR.out hb)
            have RVALH := Lib.hid (fun w => rValid_at r b w FR.out hb)
            have LNG := Lib.hid (fun w => long_at r w)
            have CLL := Lib.hid (rec_len r)
            obtain ⟨cl, hcl⟩ : ∃ cl, r.cells = cl := ⟨_, rfl⟩
            rw [hcl] at RNG VALH RVALH CLL LNG
            have HLT := Lib.hid hlt
            clear hr hrng hb hcl he2
            go_upto_region 8 with (first
              | (refine wpList_load_mid rfl 30 (.tmp 35) rfl gq (o + k * 10) rfl cl _ RNG.out Tryd.underlying30 rfl (by rw [CLL.out]; kernel_rfl) ?_)
              | (go_at_call 9; go_loud (refine (LNG.out _).mono ?_; rintro e w4 ⟨z, rfl, hw⟩; have C4 := Lib.hid (gr_tr CK.out hw); have X4 := Lib.hid (blk_below XK.out hw); have R4 := Lib.hid (rng_below RNG.out hw); clear hw))
              | (go_at_call 8; go_loud (refine (known_any _).mono ?_; rintro e w9 ⟨rfl, hw⟩; have D9 := Lib.hid (gr_tr (gr_tr DX.out C4.out) hw); clear hw)))
            · go_ret
              exact ⟨rfl, D9.out⟩
            · clear x1
              have q1 : ∀ y : KeepT nowhere w4, y.val.cell? ⟨w.heap.size, 1, none⟩ = some (.slice (some ⟨gq, o, none⟩) n c) := fun y => y.cell ((cell_of_row _ _ 1 _ _ _ X4.out).trans rfl) id
              refine wp_region_planW nowhere [(true, 0), (true, 1), (true, 2), (true, 3), (true, 4), (true, 6), (true, 7), (true, 8), (true, 9), (true, 10), (false, 5), (false, 11), (true, 12)] (by kernel_rfl) (by kernel_rfl) (by intro c a d v w h; cases d <;> exact h) ?_
              intro W1 K1 C1
              (refine wpS_firm rfl (fun K hK => ?_); simp only [Keep]; go_simp; refine hK _ ?_; clear hK K)
              (refine wpS_firm rfl (fun K hK => ?_); simp only [Keep]; go_simp; refine hK _ ?_; clear hK K)
              (refine wpS_firm rfl (fun K hK => ?_); simp only [Keep]; go_simp; refine hK _ ?_; clear hK K)
              (refine wpS_firm rfl (fun K hK => ?_); simp only [Keep]; go_simp; refine hK _ ?_; clear hK K)
              refine wpS_load_mid rfl rfl 30 (.tmp 42) rfl gq (o + k * 10) rfl cl _ (fun x hx => Keep.rng hx R4.out (fun h => h)) Tryd.underlying30 rfl (by rw [CLL.out]; kernel_rfl) ?_
              (refine wpS_firm rfl (fun K hK => ?_); simp only [Keep]; go_simp; refine hK _ ?_; clear hK K)
              (refine wpS_firm rfl (fun K hK => ?_); simp only [Keep]; go_simp; refine hK _ ?_; clear hK K)
              (refine wpS_firm rfl (fun K hK => ?_); simp only [Keep]; go_simp; refine hK _ ?_; clear hK K)
              (refine wpS_firm rfl (fun K hK => ?_); simp only [Keep]; go_simp; refine hK _ ?_; clear hK K)
              refine wpS_load_mid rfl rfl 30 (.tmp 48) rfl gq (o + k * 10) rfl cl _ (fun x hx => Keep.rng hx R4.out (fun h => h)) Tryd.underlying30 rfl (by rw [CLL.out]; kernel_rfl) ?_
              refine wpS_chain rfl ?_
              go_wp2_with (go_at_call 10; go_loud (refine (VALH.out _).mono ?_; rintro e w5 ⟨rfl, hw⟩; have C5 := Lib.hid (gr_tr (gr_tr C4.out C1.out) hw); have K5 := Lib.hid (K1.out.below hw); clear hw))
              refine ⟨K5.out, ?_⟩
              refine wpS_chain rfl ?_
              go_wp2_with (go_at_call 11; go_loud (refine (RVALH.out _).mono ?_; rintro e w6 ⟨rfl, hw⟩; have C6 := Lib.hid (gr_tr C5.out hw); have K6 := Lib.hid (K5.out.below hw); clear hw))
              refine ⟨K6.out, ?_⟩
              (refine wpS_firm rfl (fun K hK => ?_); simp only [Keep]; go_simp; refine hK _ ?_; clear hK K)
              unfold wpS
              clear q1
              have hlt2 := HLT.out
              have hn3 := HN3.out
              go_wp2
              go_roundw
              case rel => exact ⟨k + 1, by have := HLT.out; omega, by go_num, C6.out⟩
              case measure =>
                have := HLT.out
                simp [intOf]; omega
          · obtain rfl : k = n := by omega
            obtain ⟨E, hE⟩ : ∃ E, logE rs = E := ⟨_, rfl⟩
            obtain ⟨B, hB⟩ : ∃ B, logR g rs = B := ⟨_, rfl⟩
            have SN := Lib.hid (show SliceV wr Dsc.Rec.cells (.slice a k c) rs from SliceV.below SW.out CK.out)
            have ENC := Lib.hid (fun w (h : SliceV w Dsc.Rec.cells (.slice a k c) rs) => Encode_at g _ rs E B w h HFIT.out hE hB)
            have RENC := Lib.hid (fun w (h : SliceV w Dsc.Rec.cells (.slice a k c) rs) => rEncode_at g _ rs E B w h HFIT.out hE hB)
            obtain ⟨st, hst⟩ : ∃ st, strOf B = st := ⟨_, rfl⟩
            have HST := Lib.hid hst
            clear hE hB hst
            go_wp2_with (first
              | (refine wpList_load_row rfl 25 (.tmp 1) rfl w.heap.size rfl 25 #[.int .u64 (uv g), .slice a k c] (0, 0) _ XK.out Tryd.underlying25 rfl (by kernel_rfl) ?_)
              | (refine wpList_load_row rfl 25 (.tmp 1) rfl w.heap.size rfl 25 #[.int .u64 (uv g), .slice a k c] (0, 0) _ X5.out Tryd.underlying25 rfl (by kernel_rfl) ?_)
              | (go_at_call 12; go_loud (refine (ENC.out _ SN.out).mono ?_; rintro e w5 ⟨u5, rfl, ho, hb⟩; have U5 := Lib.hid (BytesV.of_own ho); have X5 := Lib.hid (blk_below XK.out hb); have S5 := Lib.hid (SliceV.below SN.out hb); have C5 := Lib.hid (gr_tr CK.out hb); clear ho hb))
              | (go_at_call 13; go_loud (refine (RENC.out _ S5.out).mono ?_; rintro e w6 ⟨u6, rfl, ho, hb⟩; have hs6 := run_string (BytesV.of_own ho); have hs5 := run_string (U5.out.below hb); rw [HST.out] at hs5 hs6; have C6 := Lib.hid (gr_tr C5.out hb); clear ho hb))
              | (go_at_call 8; go_loud (refine (known_any _).mono ?_; rintro e w9 ⟨rfl, hw⟩; have D9 := Lib.hid (gr_tr (gr_tr DX.out C6.out) hw); clear hw)))
            go_ret
            exact ⟨rfl, D9.out⟩
      · clear g2
        go_upto_region 3 with fail
        clear g4
        clear g1 x1
        go_wp2
        go_loopw [3] (fun i wr => ∃ k : Nat, k ≤ n ∧ i = .int .i64 k ∧ Below W.heap.size W wr) (fun i _ => n - (intOf i).toNat)
        case atStart => exact ⟨0, by omega, rfl, Below.refl _ _⟩
        case round =>
          obtain ⟨k, hk, rfl, hb⟩ := hrel
          have CK := Lib.hid hb
          clear hb
          have XK := Lib.hid (blk_below X.out CK.out)
          have x1 : wr.cell? ⟨w.heap.size, 1, none⟩ = some (.slice a n c) := (cell_of_row _ _ 1 _ _ _ XK.out).trans rfl
          by_cases hlt : k < n
          · obtain ⟨r, hr⟩ : ∃ r, rs[k]? = some r := ⟨_, List.getElem?_eq_getElem (by rw [HN.out]; exact hlt)⟩
            obtain ⟨gq, o, cq, he, hrng⟩ := SliceV.rng rec_len SW.out k r hr (by decide)
            injection he with he1 he2 he3
            subst he1; subst he3
            have RNG := Lib.hid (rng_below hrng CK.out)
            have FR := Lib.hid (HFIT.out r (List.mem_of_getElem? hr))
            obtain ⟨b, hb⟩ : ∃ b, r.ok = b := ⟨_, rfl⟩
            have VALH := Lib.hid (fun w => Valid_at r b w FR.out hb)
            have RVALH := Lib.hid (fun w => rValid_at r b w FR.out hb)
            have LNG := Lib.hid (fun w => long_at r w)
            have CLL := Lib.hid (rec_len r)
            obtain ⟨cl, hcl⟩ : ∃ cl, r.cells = cl := ⟨_, rfl⟩
            rw [hcl] at RNG VALH RVALH CLL LNG
            have HLT := Lib.hid hlt
            clear hr hrng hb hcl he2
            go_upto_region 8 with (first
              | (refine wpList_load_mid rfl 30 (.tmp 35) rfl gq (o + k * 10) rfl cl _ RNG.out Tryd.underlying30 rfl (by rw [CLL.out]; kernel_rfl) ?_)
              | (go_at_call 9; go_loud (refine (LNG.out _).mono ?_; rintro e w4 ⟨z, rfl, hw⟩; have C4 := Lib.hid (gr_tr CK.out hw); have X4 := Lib.hid (blk_below XK.out hw); have R4 := Lib.hid (rng_below RNG.out hw); clear hw))
              | (go_at_call 8; go_loud (refine (known_any _).mono ?_; rintro e w9 ⟨rfl, hw⟩; have D9 := Lib.hid (gr_tr (gr_tr DX.out C4.out) hw); clear hw)))
            · go_ret
              exact ⟨rfl, D9.out⟩
            · clear x1
              have q1 : ∀ y : KeepT nowhere w4, y.val.cell? ⟨w.heap.size, 1, none⟩ = some (.slice (some ⟨gq, o, none⟩) n c) := fun y => y.cell ((cell_of_row _ _ 1 _ _ _ X4.out).trans rfl) id
              refine wp_region_planW nowhere [(true, 0), (true, 1), (true, 2), (true, 3), (true, 4), (true, 6), (true, 7), (true, 8), (true, 9), (true, 10), (false, 5), (false, 11), (true, 12)] (by kernel_rfl) (by kernel_rfl) (by intro c a d v w h; cases d <;> exact h) ?_
              intro W1 K1 C1
              (refine wpS_firm rfl (fun K hK => ?_); simp only [Keep]; go_simp; refine hK _ ?_; clear hK K)
              (refine wpS_firm rfl (fun K hK => ?_); simp only [Keep]; go_simp; refine hK _ ?_; clear hK K)
              (refine wpS_firm rfl (fun K hK => ?_); simp only [Keep]; go_simp; refine hK _ ?_; clear hK K)
              (refine wpS_firm rfl (fun K hK => ?_); simp only [Keep]; go_simp; refine hK _ ?_; clear hK K)
              refine wpS_load_mid rfl rfl 30 (.tmp 42) rfl gq (o + k * 10) rfl cl _ (fun x hx => Keep.rng hx R4.out (fun h => h)) Tryd.underlying30 rfl (by rw [CLL.out]; kernel_rfl) ?_
              (refine wpS_firm rfl (fun K hK => ?_); simp only [Keep]; go_simp; refine hK _ ?_; clear hK K)
              (refine wpS_firm rfl (fun K hK => ?_); simp only [Keep]; go_simp; refine hK _ ?_; clear hK K)
              (refine wpS_firm rfl (fun K hK => ?_); simp only [Keep]; go_simp; refine hK _ ?_; clear hK K)
              (refine wpS_firm rfl (fun K hK => ?_); simp only [Keep]; go_simp; refine hK _ ?_; clear hK K)
              refine wpS_load_mid rfl rfl 30 (.tmp 48) rfl gq (o + k * 10) rfl cl _ (fun x hx => Keep.rng hx R4.out (fun h => h)) Tryd.underlying30 rfl (by rw [CLL.out]; kernel_rfl) ?_
              refine wpS_chain rfl ?_
              go_wp2_with (go_at_call 10; go_loud (refine (VALH.out _).mono ?_; rintro e w5 ⟨rfl, hw⟩; have C5 := Lib.hid (gr_tr (gr_tr C4.out C1.out) hw); have K5 := Lib.hid (K1.out.below hw); clear hw))
              refine ⟨K5.out, ?_⟩
              refine wpS_chain rfl ?_
              go_wp2_with (go_at_call 11; go_loud (refine (RVALH.out _).mono ?_; rintro e w6 ⟨rfl, hw⟩; have C6 := Lib.hid (gr_tr C5.out hw); have K6 := Lib.hid (K5.out.below hw); clear hw))
              refine ⟨K6.out, ?_⟩
              (refine wpS_firm rfl (fun K hK => ?_); simp only [Keep]; go_simp; refine hK _ ?_; clear hK K)
              unfold wpS
              clear q1
              have hlt2 := HLT.out
              have hn3 := HN3.out
              go_wp2
              go_roundw
              case rel => exact ⟨k + 1, by have := HLT.out; omega, by go_num, C6.out⟩
              case measure =>
                have := HLT.out
                simp [intOf]; omega
          · obtain rfl : k = n := by omega
            obtain ⟨E, hE⟩ : ∃ E, logE rs = E := ⟨_, rfl⟩
            obtain ⟨B, hB⟩ : ∃ B, logR g rs = B := ⟨_, rfl⟩
            have SN := Lib.hid (show SliceV wr Dsc.Rec.cells (.slice a k c) rs from SliceV.below SW.out CK.out)
            have ENC := Lib.hid (fun w (h : SliceV w Dsc.Rec.cells (.slice a k c) rs) => Encode_at g _ rs E B w h HFIT.out hE hB)
            have RENC := Lib.hid (fun w (h : SliceV w Dsc.Rec.cells (.slice a k c) rs) => rEncode_at g _ rs E B w h HFIT.out hE hB)
            obtain ⟨st, hst⟩ : ∃ st, strOf B = st := ⟨_, rfl⟩
            have HST := Lib.hid hst
            clear hE hB hst
            go_wp2_with (first
              | (refine wpList_load_row rfl 25 (.tmp 1) rfl w.heap.size rfl 25 #[.int .u64 (uv g), .slice a k c] (0, 0) _ XK.out Tryd.underlying25 rfl (by kernel_rfl) ?_)
              | (refine wpList_load_row rfl 25 (.tmp 1) rfl w.heap.size rfl 25 #[.int .u64 (uv g), .slice a k c] (0, 0) _ X5.out Tryd.underlying25 rfl (by kernel_rfl) ?_)
              | (go_at_call 12; go_loud (refine (ENC.out _ SN.out).mono ?_; rintro e w5 ⟨u5, rfl, ho, hb⟩; have U5 := Lib.hid (BytesV.of_own ho); have X5 := Lib.hid (blk_below XK.out hb); have S5 := Lib.hid (SliceV.below SN.out hb); have C5 := Lib.hid (gr_tr CK.out hb); clear ho hb))
              | (go_at_call 13; go_loud (refine (RENC.out _ S5.out).mono ?_; rintro e w6 ⟨u6, rfl, ho, hb⟩; have hs6 := run_string (BytesV.of_own ho); have hs5 := run_string (U5.out.below hb); rw [HST.out] at hs5 hs6; have C6 := Lib.hid (gr_tr C5.out hb); clear ho hb))
              | (go_at_call 8; go_loud (refine (known_any _).mono ?_; rintro e w9 ⟨rfl, hw⟩; have D9 := Lib.hid (gr_tr (gr_tr DX.out C6.out) hw); clear hw)))
            go_ret
            exact ⟨rfl, D9.out⟩
theorem lawEnc (x : DLog) (w : World) (h : DLog.R w x) :
    Calls Tryd.prog 3 #[.agg x.cells.toArray] w fun e w' => e = .returned (.bool true) ∧ Below w.heap.size w w' := by
  obtain ⟨-, rs, h1, h2⟩ := h
  exact lawEncodes x.g x.rs rs w h1 (fun r hr => (h2 r hr).fit)
end Go.Proofs.YtjcgdenkmmgmfaaDoor
