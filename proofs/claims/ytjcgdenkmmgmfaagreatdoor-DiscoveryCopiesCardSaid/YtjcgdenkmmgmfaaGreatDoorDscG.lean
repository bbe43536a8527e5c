/- Discovery: log pages: Encode: the program. Printed by gendscg.py. -/
import Derived.Test.YtjcgdenkmmgmfaaGreatDoorDscF
import Derived.Test.YtjcgdenkmmgmfaaGreatDoorOpenG
import Derived.Test.YtjcgdenkmmgmfaaGreatDoorAppAt
import Derived.Deep.MidRow
namespace Go.Proofs.YtjcgdenkmmgmfaaGreatDoor
open Go.RowKit Dsc
set_option linter.unusedVariables false
set_option linter.unusedSimpArgs false
theorem rec_len : ∀ r : Rec, r.cells.length = 10 := fun _ => rfl
theorem rec_one (r : Rec) : r.cells.toArray.all (·.oneCell') = true := by simp [Dsc.Rec.cells, Value.oneCell']
/-- The cells of an element of a slice of structs. -/
theorem SliceV.rng {w : World} {α : Type} {f : α → List Value} {k : Nat} (hf : ∀ y, (f y).length = k) {v : Value} {xs : List α} (h : SliceV w f v xs) (i : Nat) (x : α) (hx : xs[i]? = some x) (hk : 0 < k) :
    ∃ g o c, v = .slice (some ⟨g, o, none⟩) xs.length c ∧ w.rangeAt g (o + i * k) (f x) := by
  obtain ⟨a, c, rfl, h0, h1, h2, h3⟩ := h
  have hget : ∀ j, j < k → (xs.flatMap f)[i * k + j]? = (f x)[j]? := fun j hj => flat_get hf xs i j x hx hj
  obtain ⟨y, hy⟩ : ∃ y, (f x)[0]? = some y := ⟨_, List.getElem?_eq_getElem (by rw [hf]; exact hk)⟩
  obtain ⟨g, o, rfl, -⟩ := h3.at (i := i * k + 0) (v := y) (by rw [hget 0 hk, hy])
  refine ⟨g, o, c, rfl, fun j z hz => ?_⟩
  have hj : j < k := by have := (List.getElem?_eq_some_iff.1 hz).1; rwa [hf] at this
  obtain ⟨g', o', e1, hc⟩ := h3.at (i := i * k + j) (v := z) (by rw [hget j hj, hz])
  injection e1 with e1; injection e1 with e1 e2; subst e1; subst e2
  rw [Nat.add_assoc]; exact hc
theorem rng_below {w w' : World} {g o : Nat} {cs : List Value} (h : w.rangeAt g o cs) (hb : Below w.heap.size w w') : w'.rangeAt g o cs := fun j v hj => below_cellE hb (h j v hj)
theorem all_more {α : Type} (p : α → Bool) (l : List α) (k : Nat) (x : α) (h : l[k]? = some x) (hx : p x = true) (hl : (l.take k).all p = true) : (l.take (k + 1)).all p = true := by
  rw [all_take p l k x h, hl, hx]; rfl
theorem all_no {α : Type} (p : α → Bool) (l : List α) (k : Nat) (x : α) (h : l[k]? = some x) (hx : p x = false) : l.all p = false := by
  rw [List.all_eq_false]; exact ⟨x, List.mem_of_getElem? h, by rw [hx]; simp⟩
theorem made_bytes {w1 : World} {base g n : Nat} (h : w1.ownsRow base 5 1 (.slice (some ⟨g, 0, none⟩) n n) n (by8 (List.replicate n 0#8))) : BytesV w1 (.slice (some ⟨g, 0, none⟩) n n) (List.replicate n 0#8) := by
  refine BytesV.of_own (base := base) (e := 5) ?_
  rw [List.length_replicate]; exact h
theorem logB_more (g : BitVec 64) (n : Nat) (rs : List Rec) (k : Nat) (r : Rec) (h : rs[k]? = some r) : head g n ++ ((rs.take (k + 1)).map Rec.bytes).flatten = (head g n ++ ((rs.take k).map Rec.bytes).flatten) ++ r.bytes := by
  rw [take_more rs k r h, List.map_append, List.flatten_append, List.append_assoc]; simp
set_option maxHeartbeats 6400000 in
set_option maxRecDepth 20000 in
theorem Encode_at (g : BitVec 64) (v : Value) (rs : List Rec) (E : Int) (B : List (BitVec 8)) (w : World) (hv : SliceV w Dsc.Rec.cells v rs) (hfit : ∀ r ∈ rs, r.Fit) (hE : logE rs = E) (hB : logR g rs = B) :
    Calls Tryz.prog 17 #[.agg #[.int .u64 (uv g), v]] w fun e w' => ∃ u, e = .returned (.tuple #[u, .int .i64 E]) ∧ w'.ownsRow w.heap.size 5 1 u B.length (by8 B) ∧ Below w.heap.size w w' := by
  have HE := Lib.hid hE; have HB := Lib.hid hB; have HFIT := Lib.hid hfit
  have SV := Lib.hid hv
  obtain ⟨a, c, hva, -⟩ := id hv
  subst hva
  clear hE hB hfit hv
  obtain ⟨n, hn⟩ : ∃ n, rs.length = n := ⟨_, rfl⟩
  have HN := Lib.hid hn
  rw [hn]
  clear hn
  obtain ⟨W, hW⟩ : ∃ W, W = w.alloc (.cells #[.int .u64 (uv g), .slice a n c] 60) := ⟨_, rfl⟩
  have D := Lib.hid (show Below w.heap.size w W by rw [hW]; exact gr_alloc w _)
  have X := Lib.hid (show W.heap[w.heap.size]? = some (.cells #[.int .u64 (uv g), .slice a n c] 60 (0, 0)) by rw [hW]; exact heap_alloc_new w _)
  have SW := Lib.hid (SV.out.below D.out)
  have x0 : W.cell? ⟨w.heap.size, 0, none⟩ = some (.int .u64 (uv g)) := (cell_of_row _ _ 0 _ _ _ X.out).trans rfl
  have x1 : W.cell? ⟨w.heap.size, 1, none⟩ = some (.slice a n c) := (cell_of_row _ _ 1 _ _ _ X.out).trans rfl
  have HW := Lib.hid hW
  clear hW SV
  go_enter Tryz.func17, Tryz.ntmps17
  go_upto_region 1 with fail
  rw [← HW.out]
  clear HW
  by_cases hbig : 256 < n
  · have hE : E = 5 := by rw [← HE.out]; unfold logE; rw [HN.out, if_pos hbig]
    have hB : B = [] := by rw [← HB.out]; unfold logR; rw [HE.out, hE]; rfl
    subst hE; subst hB
    go_wp2
    go_ret2
    exact ⟨_, rfl, World.ownsRow_nil _ _ _ _, D.out⟩
  · have hd : decide (256 < n) = false := decide_eq_false hbig
    go_upto_region 3 with fail
    obtain ⟨hdr, hhd⟩ : ∃ h, head g n = h := ⟨_, rfl⟩
    have HL := Lib.hid (show hdr.length = 1024 by rw [← hhd]; exact head_len g n)
    have HHD := Lib.hid hhd
    clear hhd
    go_cut [4] (fun s wx => wx.ownsRow W.heap.size 5 1 s 1024 (by8 hdr) ∧ Below W.heap.size W wx)
    case first =>
      have q0 : ∀ y : KeepT nowhere W, y.val.cell? ⟨w.heap.size, 0, none⟩ = some (.int .u64 (uv g)) := fun y => y.cell x0 id
      have q1 : ∀ y : KeepT nowhere W, y.val.cell? ⟨w.heap.size, 1, none⟩ = some (.slice a n c) := fun y => y.cell x1 id
      clear x0 x1
      have NUM := Lib.hid (fun (v : BitVec 64) w => number_at v 8 w (by decide))
      obtain ⟨gn, hgn⟩ : ∃ z, BitVec.ofNat 64 n = z := ⟨_, rfl⟩
      have FL : [Wire.le g 8, Wire.le gn 8, List.replicate 1008 0#8].flatten = head g n := by unfold head; rw [hgn]; simp
      obtain ⟨Z, hZ⟩ : ∃ Z, List.replicate 1008 0#8 = Z := ⟨_, rfl⟩
      have ZL := Lib.hid (show Z.length = 1008 by rw [← hZ]; simp)
      have HZ := Lib.hid hZ
      rw [hZ] at FL
      rw [HHD.out] at FL
      have FLH := Lib.hid FL
      have HGN := Lib.hid hgn
      clear FL hZ hgn
      refine wp_region_planT nowhere (.firm 0 (.firm 1 (.firm 3 (.firm 4 (.firm 5 (.firm 6 (.two 2 (.two 7 (.one 8 (.one 9 (.one 10 (.firm 11 .done)))) 8 (.one 7 (.one 9 (.one 10 (.firm 11 .done))))) 8 (.one 2 (.one 7 (.one 9 (.one 10 (.firm 11 .done))))))))))))
        (by kernel_rfl) (by kernel_rfl) (by intro c a d v w h; cases d <;> exact h) ?_
      intro W1 K1 C1
      repeat (refine wpT_firm rfl (fun K hK => ?_); simp only [Keep]; go_simp; refine hK _ ?_; clear hK K)
      refine wpT_two rfl rfl ?_ ?_
      · go_wp2_with (go_at_call 38; go_loud (refine (NUM.out g _).mono ?_; rintro e w2 ⟨uUA, rfl, ho, hb⟩; have UA := Lib.hid (BytesV.of_own (l := Wire.le g 8) (by rw [Wire.le_len]; exact ho)); have C2 := Lib.hid (gr_tr C1.out hb); have K2 := Lib.hid (K1.out.below hb); clear ho hb))
        obtain ⟨aUA, nUA, kUA, rfl⟩ := bytes_shape UA.out
        refine ⟨K2.out, ?_⟩
        refine wpT_two rfl rfl ?_ ?_
        · go_wp2_with (go_at_call 38; go_loud (rw [HGN.out]; refine (NUM.out gn _).mono ?_; rintro e w3 ⟨uUB, rfl, ho, hb⟩; replace UA := Lib.hid (UA.out.below hb); have UB := Lib.hid (BytesV.of_own (l := Wire.le gn 8) (by rw [Wire.le_len]; exact ho)); have C3 := Lib.hid (gr_tr C2.out hb); have K3 := Lib.hid (K2.out.below hb); clear ho hb))
          obtain ⟨aUB, nUB, kUB, rfl⟩ := bytes_shape UB.out
          refine ⟨K3.out, ?_⟩
          refine wpT_chain rfl ?_
          refine make_law bytesOk rfl _ _ rfl w3.heap.size .i64 .i64 1008 1008 1008 rfl rfl rfl rfl (by omega) (by omega) (Nat.le_refl _) ?_
          intro w4 hown hgrow
          rw [by8_made] at hown
          have hb : Below w3.heap.size w3 w4 := (Below.refl _ _).grown hgrow (Nat.le_refl _) (by intro k hk; cases hk)
          replace UA := Lib.hid (UA.out.below hb)
          replace UB := Lib.hid (UB.out.below hb)
          have UC := Lib.hid (made_bytes hown)
          rw [HZ.out] at UC
          have C4 := Lib.hid (gr_tr C3.out hb)
          have K4 := Lib.hid (K3.out.below hb)
          clear hown hgrow hb
          go_wp2
          refine ⟨K4.out, ?_⟩
          refine wpT_chain rfl ?_
          go_wp2
          have PV := Lib.hid (PartsV.lit #[.slice aUA nUA kUA, .slice aUB nUB kUB, .slice (some ⟨w3.heap.size, 0, none⟩) 1008 1008] 45 (0, 0) [Wire.le g 8, Wire.le gn 8, Z] 3 rfl rfl (by omega) (lits3 UA.out UB.out UC.out))
          have C5 := Lib.hid (gr_tr C4.out (gr_alloc _ (.cells #[.slice aUA nUA kUA, .slice aUB nUB kUB, .slice (some ⟨w3.heap.size, 0, none⟩) 1008 1008] 45)))
          have K5 := Lib.hid (K4.out.alloc (.cells #[.slice aUA nUA kUA, .slice aUB nUB kUB, .slice (some ⟨w3.heap.size, 0, none⟩) 1008 1008] 45))
          refine ⟨K5.out, ?_⟩
          refine wpT_chain rfl ?_
          go_wp2_with (go_at_call 37; go_loud (refine (Concat_any _ [Wire.le g 8, Wire.le gn 8, Z] _ PV.out (by rw [FLH.out, HL.out]; decide)).mono ?_; rintro e w6 ⟨uo, rfl, ho, hb⟩; rw [FLH.out, HL.out] at ho; have O := Lib.hid ho; have C6 := Lib.hid (gr_tr C5.out hb); have K6 := Lib.hid (K5.out.below hb); clear ho hb))
          refine ⟨K6.out, ?_⟩
          repeat (refine wpT_firm rfl (fun K hK => ?_); simp only [Keep]; go_simp; refine hK _ ?_; clear hK K)
          unfold wpT
          go_wp2
          go_meet
          exact ⟨own_base O.out C5.out.size, C6.out⟩
        · refine make_law bytesOk rfl _ _ rfl w2.heap.size .i64 .i64 1008 1008 1008 rfl rfl rfl rfl (by omega) (by omega) (Nat.le_refl _) ?_
          intro w3 hown hgrow
          rw [by8_made] at hown
          have hb : Below w2.heap.size w2 w3 := (Below.refl _ _).grown hgrow (Nat.le_refl _) (by intro k hk; cases hk)
          replace UA := Lib.hid (UA.out.below hb)
          have UC := Lib.hid (made_bytes hown)
          rw [HZ.out] at UC
          have C3 := Lib.hid (gr_tr C2.out hb)
          have K3 := Lib.hid (K2.out.below hb)
          clear hown hgrow hb
          go_wp2
          refine ⟨K3.out, ?_⟩
          refine wpT_chain rfl ?_
          go_wp2_with (go_at_call 38; go_loud (rw [HGN.out]; refine (NUM.out gn _).mono ?_; rintro e w4 ⟨uUB, rfl, ho, hb⟩; replace UA := Lib.hid (UA.out.below hb); replace UC := Lib.hid (UC.out.below hb); have UB := Lib.hid (BytesV.of_own (l := Wire.le gn 8) (by rw [Wire.le_len]; exact ho)); have C4 := Lib.hid (gr_tr C3.out hb); have K4 := Lib.hid (K3.out.below hb); clear ho hb))
          obtain ⟨aUB, nUB, kUB, rfl⟩ := bytes_shape UB.out
          refine ⟨K4.out, ?_⟩
          refine wpT_chain rfl ?_
          go_wp2
          have PV := Lib.hid (PartsV.lit #[.slice aUA nUA kUA, .slice aUB nUB kUB, .slice (some ⟨w2.heap.size, 0, none⟩) 1008 1008] 45 (0, 0) [Wire.le g 8, Wire.le gn 8, Z] 3 rfl rfl (by omega) (lits3 UA.out UB.out UC.out))
          have C5 := Lib.hid (gr_tr C4.out (gr_alloc _ (.cells #[.slice aUA nUA kUA, .slice aUB nUB kUB, .slice (some ⟨w2.heap.size, 0, none⟩) 1008 1008] 45)))
          have K5 := Lib.hid (K4.out.alloc (.cells #[.slice aUA nUA kUA, .slice aUB nUB kUB, .slice (some ⟨w2.heap.size, 0, none⟩) 1008 1008] 45))
          refine ⟨K5.out, ?_⟩
          refine wpT_chain rfl ?_
          go_wp2_with (go_at_call 37; go_loud (refine (Concat_any _ [Wire.le g 8, Wire.le gn 8, Z] _ PV.out (by rw [FLH.out, HL.out]; decide)).mono ?_; rintro e w6 ⟨uo, rfl, ho, hb⟩; rw [FLH.out, HL.out] at ho; have O := Lib.hid ho; have C6 := Lib.hid (gr_tr C5.out hb); have K6 := Lib.hid (K5.out.below hb); clear ho hb))
          refine ⟨K6.out, ?_⟩
          repeat (refine wpT_firm rfl (fun K hK => ?_); simp only [Keep]; go_simp; refine hK _ ?_; clear hK K)
          unfold wpT
          go_wp2
          go_meet
          exact ⟨own_base O.out C5.out.size, C6.out⟩
      · refine make_law bytesOk rfl _ _ rfl W1.heap.size .i64 .i64 1008 1008 1008 rfl rfl rfl rfl (by omega) (by omega) (Nat.le_refl _) ?_
        intro w2 hown hgrow
        rw [by8_made] at hown
        have hb : Below W1.heap.size W1 w2 := (Below.refl _ _).grown hgrow (Nat.le_refl _) (by intro k hk; cases hk)
        have UC := Lib.hid (made_bytes hown)
        rw [HZ.out] at UC
        have C2 := Lib.hid (gr_tr C1.out hb)
        have K2 := Lib.hid (K1.out.below hb)
        clear hown hgrow hb
        go_wp2
        refine ⟨K2.out, ?_⟩
        refine wpT_chain rfl ?_
        go_wp2_with (go_at_call 38; go_loud (refine (NUM.out g _).mono ?_; rintro e w3 ⟨uUA, rfl, ho, hb⟩; replace UC := Lib.hid (UC.out.below hb); have UA := Lib.hid (BytesV.of_own (l := Wire.le g 8) (by rw [Wire.le_len]; exact ho)); have C3 := Lib.hid (gr_tr C2.out hb); have K3 := Lib.hid (K2.out.below hb); clear ho hb))
        obtain ⟨aUA, nUA, kUA, rfl⟩ := bytes_shape UA.out
        refine ⟨K3.out, ?_⟩
        refine wpT_chain rfl ?_
        go_wp2_with (go_at_call 38; go_loud (rw [HGN.out]; refine (NUM.out gn _).mono ?_; rintro e w4 ⟨uUB, rfl, ho, hb⟩; replace UC := Lib.hid (UC.out.below hb); replace UA := Lib.hid (UA.out.below hb); have UB := Lib.hid (BytesV.of_own (l := Wire.le gn 8) (by rw [Wire.le_len]; exact ho)); have C4 := Lib.hid (gr_tr C3.out hb); have K4 := Lib.hid (K3.out.below hb); clear ho hb))
        obtain ⟨aUB, nUB, kUB, rfl⟩ := bytes_shape UB.out
        refine ⟨K4.out, ?_⟩
        refine wpT_chain rfl ?_
        go_wp2
        have PV := Lib.hid (PartsV.lit #[.slice aUA nUA kUA, .slice aUB nUB kUB, .slice (some ⟨W1.heap.size, 0, none⟩) 1008 1008] 45 (0, 0) [Wire.le g 8, Wire.le gn 8, Z] 3 rfl rfl (by omega) (lits3 UA.out UB.out UC.out))
        have C5 := Lib.hid (gr_tr C4.out (gr_alloc _ (.cells #[.slice aUA nUA kUA, .slice aUB nUB kUB, .slice (some ⟨W1.heap.size, 0, none⟩) 1008 1008] 45)))
        have K5 := Lib.hid (K4.out.alloc (.cells #[.slice aUA nUA kUA, .slice aUB nUB kUB, .slice (some ⟨W1.heap.size, 0, none⟩) 1008 1008] 45))
        refine ⟨K5.out, ?_⟩
        refine wpT_chain rfl ?_
        go_wp2_with (go_at_call 37; go_loud (refine (Concat_any _ [Wire.le g 8, Wire.le gn 8, Z] _ PV.out (by rw [FLH.out, HL.out]; decide)).mono ?_; rintro e w6 ⟨uo, rfl, ho, hb⟩; rw [FLH.out, HL.out] at ho; have O := Lib.hid ho; have C6 := Lib.hid (gr_tr C5.out hb); have K6 := Lib.hid (K5.out.below hb); clear ho hb))
        refine ⟨K6.out, ?_⟩
        repeat (refine wpT_firm rfl (fun K hK => ?_); simp only [Keep]; go_simp; refine hK _ ?_; clear hK K)
        unfold wpT
        go_wp2
        go_meet
        exact ⟨own_base O.out C5.out.size, C6.out⟩
    case rest =>
      obtain ⟨hown, hb⟩ := hcut
      have O := Lib.hid hown; have C := Lib.hid hb
      clear hown hb x0 x1
      obtain ⟨w1, hx⟩ : ∃ x, x = wc := ⟨_, rfl⟩
      subst hx
      have x1 : w1.cell? ⟨w.heap.size, 1, none⟩ = some (.slice a n c) := (cell_of_row _ _ 1 _ _ _ (blk_below X.out C.out)).trans rfl
      go_wp2
      clear x1
      go_loopw [4, 6, 25] (fun u _ i wr => ∃ k : Nat, k ≤ n ∧ i = .int .i64 k ∧ Hid ((rs.take k).all Rec.ok = true) ∧ wr.ownsRow W.heap.size 5 1 u (1024 * (1 + k)) (by8 (hdr ++ ((rs.take k).map Rec.bytes).flatten)) ∧ Below W.heap.size W wr) (fun _ _ i _ => n - (intOf i).toNat)
      case atStart => exact ⟨0, by omega, rfl, Lib.hid rfl, by simpa using O.out, C.out⟩
      case round =>
        obtain ⟨k, hk, rfl, hA, hown, hb⟩ := hrel
        have OK := Lib.hid hown; have CK := Lib.hid hb
        clear hown hb
        by_cases hlt : k < n
        · obtain ⟨r, hr⟩ : ∃ r, rs[k]? = some r := ⟨_, List.getElem?_eq_getElem (by rw [HN.out]; exact hlt)⟩
          obtain ⟨gq, o, cq, he, hrng⟩ := SliceV.rng rec_len SW.out k r hr (by decide)
          injection he with he1 he2 he3
          subst he1; subst he3
          have RNG := Lib.hid (rng_below hrng CK.out)
          have FR := Lib.hid (HFIT.out r (List.mem_of_getElem? hr))
          obtain ⟨b, hb⟩ : ∃ b, r.ok = b := ⟨_, rfl⟩
          have HOK := Lib.hid hb
          have VAL := fun w => Valid_at r b w FR.out hb
          have REC := fun w h => record_at r w h
          have BL := Lib.hid (show r.ok = true → r.bytes.length = 1024 from fun h => bytes_len h)
          have LM := Lib.hid (logB_more g n rs k r hr)
          rw [HHD.out] at LM
          have ALM := Lib.hid (fun h => all_more Rec.ok rs k r hr h hA.out)
          have ALN := Lib.hid (fun h => all_no Rec.ok rs k r hr h)
          have CLL := Lib.hid (rec_len r); have ONE := Lib.hid (rec_one r)
          have CLS := Lib.hid (show r.cells.toArray.size = 10 from rfl)
          obtain ⟨cl, hcl⟩ : ∃ cl, r.cells = cl := ⟨_, rfl⟩
          rw [hcl] at RNG VAL REC CLL ONE CLS
          obtain ⟨BR, hBR⟩ : ∃ BR, r.bytes = BR := ⟨_, rfl⟩
          rw [hBR] at REC BL LM
          have VALH := Lib.hid VAL; have RECH := Lib.hid REC
          clear hr hrng hb hcl hBR VAL REC he2
          go_upto_region 7 with (first
            | (refine wpList_load_mid rfl 37 (.tmp 27) rfl gq (o + k * 10) rfl cl _ RNG.out Tryz.underlying37 rfl (by rw [CLL.out]; kernel_rfl) ?_)
            | (refine wpList_store_new rfl 37 (.tmp 6) (.tmp 28) rfl cl.toArray 37 _ rfl rfl (by rw [CLS.out]; kernel_rfl) (by rw [CLS.out]; rfl) ONE.out ?_; intro w3 hh hw; have Y3 := Lib.hid hh; have B3 := Lib.hid hw; clear hh hw))
          obtain ⟨p, hp⟩ : ∃ p, wr.heap.size = p := ⟨_, rfl⟩
          rw [hp] at Y3 ⊢
          have O3 := Lib.hid (own_below OK.out B3.out)
          have C3 := Lib.hid (gr_tr CK.out B3.out)
          clear hp RNG
          cases b
          · have hE : E = 2 := by rw [← HE.out]; unfold logE; rw [HN.out, if_neg hbig, ALN.out HOK.out]; rfl
            have hB : B = [] := by rw [← HB.out]; unfold logR; rw [HE.out, hE]; rfl
            subst hE; subst hB
            clear O3 OK
            go_wp2_with (first
              | (refine wpList_load_row rfl 37 (.tmp 6) rfl p rfl 37 cl.toArray (0, 0) _ Y3.out Tryz.underlying37 rfl (by rw [CLS.out]; kernel_rfl) ?_)
              | (go_at_call 29; go_loud (refine (VALH.out _).mono ?_; rintro e w4 ⟨rfl, hw⟩; have C4 := Lib.hid (gr_tr C3.out hw); clear hw)))
            go_ret2
            exact ⟨_, rfl, World.ownsRow_nil _ _ _ _, gr_tr D.out C4.out⟩
          · have BL1 := Lib.hid (BL.out HOK.out)
            have A1 := Lib.hid (ALM.out HOK.out)
            have RC := Lib.hid (fun w => RECH.out w HOK.out)
            clear RECH ALN ALM
            go_upto_region 9 with (first
              | (refine wpList_load_row rfl 37 (.tmp 6) rfl p rfl 37 cl.toArray (0, 0) _ Y3.out Tryz.underlying37 rfl (by rw [CLS.out]; kernel_rfl) ?_)
              | (go_at_call 29; go_loud (refine (VALH.out _).mono ?_; rintro e w4 ⟨rfl, hw⟩; have C4 := Lib.hid (gr_tr C3.out hw); have Y4 := Lib.hid (blk_below Y3.out hw); have O4 := Lib.hid (own_below O3.out hw); clear hw Y3 O3 C3)))
            go_wp2_with (first
              | (refine wpList_load_row rfl 37 (.tmp 6) rfl p rfl 37 cl.toArray (0, 0) _ Y4.out Tryz.underlying37 rfl (by rw [CLS.out]; kernel_rfl) ?_)
              | (go_at_call 39; go_loud (refine (RC.out _).mono ?_; rintro e w5 ⟨u5, rfl, ho, hw⟩; have C5 := Lib.hid (gr_tr C4.out hw); have O5 := Lib.hid (own_below O4.out hw); have U5 := Lib.hid (BytesV.of_own (l := BR) (by rw [BL1.out]; exact ho)); clear hw ho O4 C4))
              | (at_builtin; go_loud (refine app_at rfl (.tmp 32) (.tmp 34) rfl _ W.heap.size (1024 * (1 + k)) _ rfl O5.out C5.out.size _ BR rfl U5.out (by rw [BL1.out]; omega) ?_; intro v6 w6 ho hg ha; have O6 := Lib.hid ho; have C6 := Lib.hid (C5.out.grown hg C5.out.size (fun j hj => (O5.out.lt j hj).1)); clear ho hg ha)))
            go_roundw
            case rel => exact ⟨k + 1, by omega, by go_num, A1, by have := O6.out; rw [BL1.out, ← LM.out, show 1024 * (1 + k) + 1024 = 1024 * (1 + (k + 1)) by omega] at this; exact this, C6.out⟩
            case measure => simp [intOf]; omega
        · obtain rfl : k = n := by omega
          have hall : rs.all Rec.ok = true := by have := hA.out; rwa [List.take_of_length_le (by rw [HN.out]; exact Nat.le_refl _)] at this
          have hE : E = 0 := by rw [← HE.out]; unfold logE; rw [HN.out, if_neg hbig, hall]; rfl
          have hB : B = hdr ++ (rs.map Rec.bytes).flatten := by rw [← HB.out]; unfold logR; rw [HE.out, if_pos hE]; unfold logB; rw [HN.out, HHD.out]
          have hBL : B.length = 1024 * (1 + k) := by rw [hB, List.length_append, HL.out, Dsc.flat_len (fun r hr => List.all_eq_true.1 hall r hr), HN.out]; omega
          have OE := Lib.hid (show wr.ownsRow w.heap.size 5 1 u4 B.length (by8 B) by have := OK.out; rw [List.take_of_length_le (by rw [HN.out]; exact Nat.le_refl _), ← hB] at this; rw [hBL]; exact own_base this D.out.size)
          subst hE
          clear hB hBL hall
          go_wp2
          go_ret2
          exact ⟨_, rfl, OE.out, gr_tr D.out CK.out⟩
end Go.Proofs.YtjcgdenkmmgmfaaGreatDoor
