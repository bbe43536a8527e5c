/- Discovery: log pages: the reference's Encode, Same. Printed by gendsch.py. -/
import Derived.Test.YtjcgdenkmmgmfaaGreatDoorDscG
import Derived.Laws.StructEq
namespace Go.Proofs.YtjcgdenkmmgmfaaGreatDoor
open Go.RowKit Dsc
set_option linter.unusedVariables false
set_option linter.unusedSimpArgs false
theorem head_ref (g : BitVec 64) (n : Nat) : Lay.lay (Lay.lay (List.replicate 1024 0#8) 0 (Wire.le g 8)) 8 (Wire.le (BitVec.ofNat 64 n) 8) = head g n := by
  have l1 := Wire.le_len g 8; have l2 := Wire.le_len (BitVec.ofNat 64 n) 8
  have e1 : Lay.lay (List.replicate 1024 0#8) 0 (Wire.le g 8) = Wire.le g 8 ++ List.replicate 1016 0#8 := by
    have := lay_on [] (Wire.le g 8) 0 1024 0 0#8 rfl (by omega)
    rw [List.nil_append] at this
    rw [this, l1]; rfl
  rw [e1, lay_on _ _ 0 1016 8 0#8 (by rw [l1]) (by omega), l2]
  rfl
set_option maxHeartbeats 6400000 in
set_option maxRecDepth 20000 in
theorem rEncode_at (g : BitVec 64) (v : Value) (rs : List Rec) (E : Int) (B : List (BitVec 8)) (w : World) (hv : SliceV w Dsc.Rec.cells v rs) (hfit : ∀ r ∈ rs, r.Fit) (hE : logE rs = E) (hB : logR g rs = B) :
    Calls Tryz.prog 36 #[.agg #[.int .u64 (uv g), v]] w fun e w' => ∃ u, e = .returned (.tuple #[u, .int .i64 E]) ∧ w'.ownsRow w.heap.size 5 1 u B.length (by8 B) ∧ Below w.heap.size w w' := by
  have HE := Lib.hid hE; have HB := Lib.hid hB; have HFIT := Lib.hid hfit
  have SV := Lib.hid hv
  obtain ⟨a, c, hva, -⟩ := id hv
  subst hva
  clear hE hB hfit hv
  obtain ⟨n, hn⟩ : ∃ n, rs.length = n := ⟨_, rfl⟩
  have HN := Lib.hid hn
  rw [hn]
  clear hn
  obtain ⟨W, hW⟩ : ∃ W, W = w.alloc (.cells #[.int .u64 (uv g), .slice a n c] 60) := ⟨_, rfl⟩
  have D := Lib.hid (show Below w.heap.size w W by rw [hW]; exact gr_alloc w _)
  have X := Lib.hid (show W.heap[w.heap.size]? = some (.cells #[.int .u64 (uv g), .slice a n c] 60 (0, 0)) by rw [hW]; exact heap_alloc_new w _)
  have WS := Lib.hid (show W.heap.size = w.heap.size + 1 by rw [hW]; simp)
  have SW := Lib.hid (SV.out.below D.out)
  have x1 : W.cell? ⟨w.heap.size, 1, none⟩ = some (.slice a n c) := (cell_of_row _ _ 1 _ _ _ X.out).trans rfl
  have HW := Lib.hid hW
  clear hW SV
  go_enter Tryz.func36, Tryz.ntmps36
  go_upto_region 1 with fail
  rw [← HW.out]
  clear HW
  by_cases hbig : 256 < n
  · have hE : E = 5 := by rw [← HE.out]; unfold logE; rw [HN.out, if_pos hbig]
    have hB : B = [] := by rw [← HB.out]; unfold logR; rw [HE.out, hE]; rfl
    subst hE; subst hB
    go_wp2
    go_ret2
    exact ⟨_, rfl, World.ownsRow_nil _ _ _ _, D.out⟩
  · have hd : decide (256 < n) = false := decide_eq_false hbig
    obtain ⟨hdr, hhd⟩ : ∃ h, head g n = h := ⟨_, rfl⟩
    have HL := Lib.hid (show hdr.length = 1024 by rw [← hhd]; exact head_len g n)
    have HHD := Lib.hid hhd
    have HRF := Lib.hid (show Lay.lay (Lay.lay (List.replicate 1024 0#8) 0 (Wire.le g 8)) 8 (Wire.le (BitVec.ofNat 64 n) 8) = hdr by rw [head_ref, hhd])
    clear hhd
    obtain ⟨L0, hL0⟩ : ∃ L, List.replicate 1024 0#8 = L := ⟨_, rfl⟩
    rw [hL0] at HRF
    have HL0 := Lib.hid hL0
    clear hL0
    go_upto_region 4 with (refine make_law bytesOk rfl _ _ rfl W.heap.size .i64 .i64 1024 1024 1024 rfl rfl rfl rfl (by omega) (by omega) (Nat.le_refl _) ?_; intro w1 hown hgrow; rw [by8_made, HL0.out] at hown; have O1 : Hid (OwnN 1024 w1 W.heap.size W.heap.size 1024 L0) := Lib.hid hown; have B1 := Lib.hid ((Below.refl W.heap.size W).grown hgrow (Nat.le_refl _) (by intro k hk; cases hk)); clear hown hgrow)
    clear x1
    have X1 := Lib.hid (blk_below X.out B1.out)
    have x0 : w1.cell? ⟨w.heap.size, 0, none⟩ = some (.int .u64 (uv g)) := (cell_of_row _ _ 0 _ _ _ X1.out).trans rfl
    obtain ⟨G, hG⟩ : ∃ G, W.heap.size = G := ⟨_, rfl⟩
    rw [hG] at O1 WS ⊢
    have HG := Lib.hid hG
    clear hG
    have NE := Lib.hid (show ¬ (fun b => b = G) w.heap.size by have := WS.out; show ¬ w.heap.size = G; omega)
    go_upto_region 5 with (go_at_call 55; go_loud (refine (little_at 1024 G 1024 _ L0 0 8 g _ O1.out (by decide) (by decide) (by decide)).mono ?_; rintro e w2 ⟨rfl, ho, hc⟩; have O2 := Lib.hid ho; have X2 := Lib.hid (hc.blk X1.out NE.out); have B2 := Lib.hid (B1.out.trans (hc.below (fun j hj => by have hj' : j = G := hj; have := HG.out; omega) B1.out.size)); clear ho hc x0 O1 X1 B1))
    have x1 : w2.cell? ⟨w.heap.size, 1, none⟩ = some (.slice a n c) := (cell_of_row _ _ 1 _ _ _ X2.out).trans rfl
    go_upto_region 6 with (go_at_call 55; go_loud (refine (little_at 1024 G 1024 _ _ 8 8 (BitVec.ofNat 64 n) _ O2.out (by decide) (by decide) (by decide)).mono ?_; rintro e w3 ⟨rfl, ho, hc⟩; rw [HRF.out] at ho; have O := Lib.hid ho; have X3 := Lib.hid (hc.blk X2.out NE.out); have C := Lib.hid (B2.out.trans (hc.below (fun j hj => by have hj' : j = G := hj; have := HG.out; omega) B2.out.size)); clear ho hc x1 O2 X2 B2))
    have GL := Lib.hid (show w.heap.size < G by have := WS.out; omega)
    rw [HG.out] at C
    clear HRF NE WS
    go_wp2
    go_loopw [4, 5] (fun u i wr => ∃ k : Nat, k ≤ n ∧ i = .int .i64 k ∧ Hid ((rs.take k).all Rec.ok = true) ∧ wr.ownsRow G 5 1 u (1024 * (1 + k)) (by8 (hdr ++ ((rs.take k).map Rec.bytes).flatten)) ∧ Below G W wr) (fun _ i _ => n - (intOf i).toNat)
    case atStart => exact ⟨0, by omega, rfl, Lib.hid rfl, by have := O.out; unfold OwnN at this; simpa using this, C.out⟩
    case round =>
      obtain ⟨k, hk, rfl, hA, hown, hb⟩ := hrel
      have OK := Lib.hid hown; have CK := Lib.hid hb
      clear hown hb
      have CK2 := Lib.hid (show Below W.heap.size W wr by rw [HG.out]; exact CK.out)
      have x1 : wr.cell? ⟨w.heap.size, 1, none⟩ = some (.slice a n c) := (cell_of_row _ _ 1 _ _ _ (blk_below X.out CK2.out)).trans rfl
      by_cases hlt : k < n
      · obtain ⟨r, hr⟩ : ∃ r, rs[k]? = some r := ⟨_, List.getElem?_eq_getElem (by rw [HN.out]; exact hlt)⟩
        obtain ⟨gq, o, cq, he, hrng⟩ := SliceV.rng rec_len SW.out k r hr (by decide)
        injection he with he1 he2 he3
        subst he1; subst he3
        have RNG := Lib.hid (rng_below hrng CK2.out)
        have FR := Lib.hid (HFIT.out r (List.mem_of_getElem? hr))
        obtain ⟨b, hb⟩ : ∃ b, r.ok = b := ⟨_, rfl⟩
        have HOK := Lib.hid hb
        have VAL := fun w => rValid_at r b w FR.out hb
        have REC := fun w h => rRecord_at r w h
        have BL := Lib.hid (show r.ok = true → r.bytes.length = 1024 from fun h => bytes_len h)
        have LM := Lib.hid (logB_more g n rs k r hr)
        rw [HHD.out] at LM
        have ALM := Lib.hid (fun h => all_more Rec.ok rs k r hr h hA.out)
        have ALN := Lib.hid (fun h => all_no Rec.ok rs k r hr h)
        have CLL := Lib.hid (rec_len r)
        obtain ⟨cl, hcl⟩ : ∃ cl, r.cells = cl := ⟨_, rfl⟩
        rw [hcl] at RNG VAL REC CLL
        obtain ⟨BR, hBR⟩ : ∃ BR, r.bytes = BR := ⟨_, rfl⟩
        rw [hBR] at REC BL LM
        have VALH := Lib.hid VAL; have RECH := Lib.hid REC
        clear hr hrng hb hcl hBR VAL REC he2
        cases b
        · have hE : E = 2 := by rw [← HE.out]; unfold logE; rw [HN.out, if_neg hbig, ALN.out HOK.out]; rfl
          have hB : B = [] := by rw [← HB.out]; unfold logR; rw [HE.out, hE]; rfl
          subst hE; subst hB
          go_wp2_with (first
            | (refine wpList_load_mid rfl 37 (.tmp 31) rfl gq (o + k * 10) rfl cl _ RNG.out Tryz.underlying37 rfl (by rw [CLL.out]; kernel_rfl) ?_)
            | (go_at_call 46; go_loud (refine (VALH.out _).mono ?_; rintro e w4 ⟨rfl, hw⟩; have C4 := Lib.hid (gr_tr CK2.out hw); clear hw)))
          go_ret2
          exact ⟨_, rfl, World.ownsRow_nil _ _ _ _, gr_tr D.out C4.out⟩
        · have BL1 := Lib.hid (BL.out HOK.out)
          have A1 := Lib.hid (ALM.out HOK.out)
          have RC := Lib.hid (fun w => RECH.out w HOK.out)
          clear RECH ALN ALM
          go_upto_region 11 with (first
            | (refine wpList_load_mid rfl 37 (.tmp 31) rfl gq (o + k * 10) rfl cl _ RNG.out Tryz.underlying37 rfl (by rw [CLL.out]; kernel_rfl) ?_)
            | (go_at_call 46; go_loud (refine (VALH.out _).mono ?_; rintro e w4 ⟨rfl, hw⟩; have C4 := Lib.hid (gr_tr CK2.out hw); have O4 := Lib.hid (own_below OK.out hw); have RNG4 := Lib.hid (rng_below RNG.out hw); have CG4 := Lib.hid (CK.out.trans (hw.mono (by have := CK.out.size; have := HG.out; omega))); clear hw x1)))
          have x1 : w4.cell? ⟨w.heap.size, 1, none⟩ = some (.slice (some ⟨gq, o, none⟩) n c) := (cell_of_row _ _ 1 _ _ _ (blk_below X.out C4.out)).trans rfl
          go_wp2_with (first
            | (refine wpList_load_mid rfl 37 (.tmp 39) rfl gq (o + k * 10) rfl cl _ RNG4.out Tryz.underlying37 rfl (by rw [CLL.out]; kernel_rfl) ?_)
            | (go_at_call 56; go_loud (refine (RC.out _).mono ?_; rintro e w5 ⟨u5, rfl, ho, hw⟩; have C5 := Lib.hid (CG4.out.trans (hw.mono (by have := CG4.out.size; have := HG.out; omega))); have O5 := Lib.hid (own_below O4.out hw); have U5 := Lib.hid (BytesV.of_own (l := BR) (by rw [BL1.out]; exact ho)); clear hw ho O4 C4 x1))
            | (at_builtin; go_loud (refine app_at rfl (.tmp 35) (.tmp 41) rfl _ G (1024 * (1 + k)) _ rfl O5.out (by have := C5.out.size; have := HG.out; omega) _ BR rfl U5.out (by rw [BL1.out]; omega) ?_; intro v6 w6 ho hg ha; have O6 := Lib.hid ho; have C6 := Lib.hid (C5.out.grown hg (by have := C5.out.size; have := HG.out; omega) (fun j hj => (O5.out.lt j hj).1)); clear ho hg ha)))
          go_roundw
          case rel => exact ⟨k + 1, by omega, by go_num, A1, by have := O6.out; rw [BL1.out, ← LM.out, show 1024 * (1 + k) + 1024 = 1024 * (1 + (k + 1)) by omega] at this; exact this, C6.out⟩
          case measure => simp [intOf]; omega
      · obtain rfl : k = n := by omega
        have hall : rs.all Rec.ok = true := by have := hA.out; rwa [List.take_of_length_le (by rw [HN.out]; exact Nat.le_refl _)] at this
        have hE : E = 0 := by rw [← HE.out]; unfold logE; rw [HN.out, if_neg hbig, hall]; rfl
        have hB : B = hdr ++ (rs.map Rec.bytes).flatten := by rw [← HB.out]; unfold logR; rw [HE.out, if_pos hE]; unfold logB; rw [HN.out, HHD.out]
        have hBL : B.length = 1024 * (1 + k) := by rw [hB, List.length_append, HL.out, Dsc.flat_len (fun r hr => List.all_eq_true.1 hall r hr), HN.out]; omega
        have OE := Lib.hid (show wr.ownsRow w.heap.size 5 1 u4 B.length (by8 B) by have := OK.out; rw [List.take_of_length_le (by rw [HN.out]; exact Nat.le_refl _), ← hB] at this; rw [hBL]; exact own_base this (by have := GL.out; omega))
        subst hE
        clear hB hBL hall
        go_wp2
        go_ret2
        exact ⟨_, rfl, OE.out, gr_tr D.out CK2.out⟩
end Go.Proofs.YtjcgdenkmmgmfaaGreatDoor
