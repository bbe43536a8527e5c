/- FirmwareStores: the walk (printed by gen26.py). -/
import Derived.Test.YtabfmhlhdebcpaaGreatDoorFwSta
import Derived.Test.YtabfmhlhdebcpaaGreatDoorPlanF
namespace Go.Proofs.YtabfmhlhdebcpaaGreatDoor
open Go.RowKit Go.Shelf Fw
set_option linter.unusedVariables false
set_option linter.unusedSimpArgs false
attribute [local go_sem] Oper.semAt_some
set_option maxRecDepth 20000 in
set_option maxHeartbeats 6400000 in
theorem lawStores_far (r : Bs) (dw sl : Int) (v2 v3 : Value) (w : World) (h : 20 < r.length ∨ dw < 0 ∨ 40 < dw ∨ sl < 2 ∨ 3 < sl) :
    Calls Tryz.prog 5 #[.string (strOf r), .int .i64 dw, v2, v3, .int .i64 sl] w fun e w' => e = .returned (.bool true) ∧ Below w.heap.size w w' := by
  have hsz := strOf_size' r
  obtain ⟨st, hst⟩ : ∃ z, strOf r = z := ⟨_, rfl⟩
  obtain ⟨n, hn⟩ : ∃ n, r.length = n := ⟨_, rfl⟩
  rw [hst, hn] at hsz
  rw [hst]
  rw [hn] at h
  clear hst hn
  by_cases c0 : 20 < n
  · have g : (20 : Int) < (n : Int) := by omega
    clear h
    go_enter Tryz.func5, Tryz.ntmps5
    go_wp2_with (go_at_call 12; go_loud ((with_reducible refine (known_any _).mono ?_); rintro e wk ⟨rfl, hbk⟩; have DK := Lib.hid hbk; clear hbk))
    go_ret
    exact ⟨rfl, DK.out⟩
  have k0 : ¬ (20 : Int) < (n : Int) := by omega
  clear c0
  by_cases c1 : dw < 0
  · have g : dw < 0 := by omega
    clear h
    go_enter Tryz.func5, Tryz.ntmps5
    go_wp2_with (go_at_call 12; go_loud ((with_reducible refine (known_any _).mono ?_); rintro e wk ⟨rfl, hbk⟩; have DK := Lib.hid hbk; clear hbk))
    go_ret
    exact ⟨rfl, DK.out⟩
  have k1 : ¬ dw < 0 := by omega
  clear c1
  by_cases c2 : 40 < dw
  · have g : 40 < dw := by omega
    clear h
    go_enter Tryz.func5, Tryz.ntmps5
    go_wp2_with (go_at_call 12; go_loud ((with_reducible refine (known_any _).mono ?_); rintro e wk ⟨rfl, hbk⟩; have DK := Lib.hid hbk; clear hbk))
    go_ret
    exact ⟨rfl, DK.out⟩
  have k2 : ¬ 40 < dw := by omega
  clear c2
  by_cases c3 : sl < 2
  · have g : sl < 2 := by omega
    clear h
    go_enter Tryz.func5, Tryz.ntmps5
    go_wp2_with (go_at_call 12; go_loud ((with_reducible refine (known_any _).mono ?_); rintro e wk ⟨rfl, hbk⟩; have DK := Lib.hid hbk; clear hbk))
    go_ret
    exact ⟨rfl, DK.out⟩
  have k3 : ¬ sl < 2 := by omega
  clear c3
  have g4 : 3 < sl := by omega
  clear h
  go_enter Tryz.func5, Tryz.ntmps5
  go_wp2_with (go_at_call 12; go_loud ((with_reducible refine (known_any _).mono ?_); rintro e wk ⟨rfl, hbk⟩; have DK := Lib.hid hbk; clear hbk))
  go_ret
  exact ⟨rfl, DK.out⟩
theorem cS_R : cS.R := ⟨by unfold I64 cS; decide, by decide, by unfold I64 cS; decide⟩
/-- The image of Stores. -/
def imS (r : Bs) (D : Nat) : Bs := imgB r (List.replicate (4 * D) 0#8)
set_option maxRecDepth 20000 in
set_option maxHeartbeats 6400000 in
theorem lawStores_no (r : Bs) (D : Nat) (sl : Int) (v2 v3 : Value) (w : World) (hr : r.length ≤ 20) (hD : D ≤ 40) (hs : 2 ≤ sl ∧ sl ≤ 3) (hi : revOk r = false) :
    Calls Tryz.prog 5 #[.string (strOf r), .int .i64 (D : Int), v2, v3, .int .i64 sl] w fun e w' => e = .returned (.bool true) ∧ Below w.heap.size w w' := by
  have NEW := Lib.hid (fun w => (show Calls Tryz.prog 10 #[.agg #[.int .i64 3, .bool false, .string ⟨#[49, 46, 48]⟩, .int .i64 256]] w _ from New_ok cS w cS_R cS_ok))
  have IMG := Lib.hid (fun v w h => Image_no r v (List.replicate (4 * D) 0#8) w (by omega) h (by unfold imgOk; rw [hi]; rfl))
  have hsz := strOf_size' r
  obtain ⟨st, hst⟩ : ∃ z, strOf r = z := ⟨_, rfl⟩
  obtain ⟨n, hn⟩ : ∃ n, r.length = n := ⟨_, rfl⟩
  rw [hst, hn] at hsz
  rw [hst] at IMG
  rw [hst]
  have HST := Lib.hid hst
  rw [hn] at hr
  have g0 : ¬ (20 : Int) < (n : Int) := by omega
  have g1 : ¬ (D : Int) < 0 := by omega
  have g2 : ¬ 40 < (D : Int) := by omega
  have g3 : ¬ sl < 2 := by omega
  have g4 : ¬ 3 < sl := by omega
  clear hst hn
  go_enter Tryz.func5, Tryz.ntmps5
  go_upto_region 5 with (first
    | (go_at_call 10; go_loud (refine (NEW.out _).mono ?_; rintro e w1 ⟨p, rfl, hs1, hp, hb⟩; have S1 := Lib.hid hs1; have PL := Lib.hid hp; have D1 := Lib.hid hb; clear hs1 hp hb))
    | (refine make_law bytesOk rfl _ _ rfl w1.heap.size .i64 .i64 (4 * (D : Int)) (4 * (D : Int)) (4 * D) rfl rfl (by omega) (by omega) (by omega) (by omega) (Nat.le_refl _) ?_; intro w2 hown hgrow; have M2 := Lib.hid (show w2.ownsRow w1.heap.size 5 1 (.slice (some ⟨w1.heap.size, 0, none⟩) (4 * D) (4 * D)) (List.replicate (4 * D) (0#8)).length (by8 (List.replicate (4 * D) 0#8)) from (by rw [by8_made] at hown; rw [List.length_replicate]; exact hown)); have B2 := Lib.hid ((Below.refl w1.heap.size w1).grown hgrow (Nat.le_refl _) (by intro k hk; cases hk)); have D2 := Lib.hid (gr_tr D1.out B2.out); clear hown hgrow)
    | (go_at_call 17; go_loud (refine (IMG.out _ _ (BytesV.of_own M2.out)).mono ?_; rintro e w3 ⟨rfl, hb⟩; have D3 := Lib.hid (gr_tr D2.out hb); clear hb)))
  go_wp2_with (go_at_call 12; go_loud ((with_reducible refine (known_any _).mono ?_); rintro e wk ⟨rfl, hbk⟩; have DK := Lib.hid hbk; clear hbk))
  go_ret
  exact ⟨rfl, gr_tr D3.out DK.out⟩
set_option maxRecDepth 20000 in
set_option maxHeartbeats 12800000 in
theorem lawStores_yes (r : Bs) (D : Nat) (sl : Int) (v2 v3 : Value) (sz od : Bs) (w : World) (hr : r.length ≤ 20) (hD : D ≤ 40) (hs : 2 ≤ sl ∧ sl ≤ 3) (hv2 : BytesV w v2 sz) (hv3 : BytesV w v3 od) (hi : revOk r = true) :
    Calls Tryz.prog 5 #[.string (strOf r), .int .i64 (D : Int), v2, v3, .int .i64 sl] w fun e w' => e = .returned (.bool true) ∧ Below w.heap.size w w' := by
  have NEW := Lib.hid (fun w => (show Calls Tryz.prog 10 #[.agg #[.int .i64 3, .bool false, .string ⟨#[49, 46, 48]⟩, .int .i64 256]] w _ from New_ok cS w cS_R cS_ok))
  have IMG := Lib.hid (fun v w h => Image_ok r v (List.replicate (4 * D) 0#8) w (by omega) h (by unfold imgOk; rw [hi, List.length_replicate, decide_eq_true (by omega)]; rfl))
  have HI := Lib.hid hi
  have ILN := Lib.hid (show (imS r D).length = 12 + 4 * D by unfold imS; rw [imgB_len r _ (revOk_is hi).2.1, List.length_replicate])
  have V2 := Lib.hid hv2; have V3 := Lib.hid hv3
  obtain ⟨n2, hn2⟩ : ∃ n, sz.length = n := ⟨_, rfl⟩
  obtain ⟨n3, hn3⟩ : ∃ n, od.length = n := ⟨_, rfl⟩
  have N2 := Lib.hid hn2; have N3 := Lib.hid hn3
  obtain ⟨a2, c2, rfl, -, hm2, hx2, -⟩ := id hv2
  obtain ⟨a3, c3, rfl, -, hm3, hx3, -⟩ := id hv3
  have hb2 : n2 ≤ 9223372036854775807 := by omega
  have hb3 : n3 ≤ 9223372036854775807 := by omega
  rw [hn2] at V2 ⊢
  rw [hn3] at V3 ⊢
  clear hi hv2 hv3 hn2 hn3 hm2 hx2 hm3 hx3
  have FI := Lib.hid (show imgB r (List.replicate (4 * D) 0#8) = imS r D from rfl)
  obtain ⟨im, him⟩ : ∃ z, imS r D = z := ⟨_, rfl⟩
  have HIM := Lib.hid him
  rw [him] at ILN FI
  rw [FI.out] at IMG
  rw [ILN.out] at IMG
  have hsz := strOf_size' r
  obtain ⟨st, hst⟩ : ∃ z, strOf r = z := ⟨_, rfl⟩
  obtain ⟨n, hn⟩ : ∃ n, r.length = n := ⟨_, rfl⟩
  rw [hst, hn] at hsz
  rw [hst] at IMG
  rw [hst]
  have HST := Lib.hid hst
  rw [hn] at hr
  have g0 : ¬ (20 : Int) < (n : Int) := by omega
  have g1 : ¬ (D : Int) < 0 := by omega
  have g2 : ¬ 40 < (D : Int) := by omega
  have g3 : ¬ sl < 2 := by omega
  have g4 : ¬ 3 < sl := by omega
  clear hst hn
  go_enter Tryz.func5, Tryz.ntmps5
  clear him
  let FT : Exit → Act → World → Prop := bodyPost Tryz.prog Tryz.f5 (fun _ _ => True)
  go_upto_region 5 with (first
    | (go_at_call 10; go_loud (refine (NEW.out _).mono ?_; rintro e w1 ⟨p, rfl, hs1, hp, hb⟩; have S1 := Lib.hid hs1; have PL := Lib.hid hp; have D1 := Lib.hid hb; clear hs1 hp hb))
    | (refine make_law bytesOk rfl _ _ rfl w1.heap.size .i64 .i64 (4 * (D : Int)) (4 * (D : Int)) (4 * D) rfl rfl (by omega) (by omega) (by omega) (by omega) (Nat.le_refl _) ?_; intro w2 hown hgrow; have M2 := Lib.hid (show w2.ownsRow w1.heap.size 5 1 (.slice (some ⟨w1.heap.size, 0, none⟩) (4 * D) (4 * D)) (List.replicate (4 * D) (0#8)).length (by8 (List.replicate (4 * D) 0#8)) from (by rw [by8_made] at hown; rw [List.length_replicate]; exact hown)); have B2 := Lib.hid ((Below.refl w1.heap.size w1).grown hgrow (Nat.le_refl _) (by intro k hk; cases hk)); have D2 := Lib.hid (gr_tr D1.out B2.out); clear hown hgrow)
    | (go_at_call 17; go_loud (refine (IMG.out _ _ (BytesV.of_own M2.out)).mono ?_; rintro e w3 ⟨u, rfl, ho, hb⟩; have OI := Lib.hid ho; have B3 := Lib.hid hb; have D3 := Lib.hid (gr_tr D2.out hb); clear ho hb)))
  obtain ⟨gi, ci, hu⟩ : ∃ gi ci, u = .slice (some ⟨gi, 0, none⟩) (12 + 4 * D) ci := by
    obtain ⟨a, c, rfl⟩ := own_shape OI.out
    obtain ⟨g, rfl⟩ := own_someB OI.out (by omega)
    exact ⟨g, c, rfl⟩
  subst hu
  obtain ⟨L, hL⟩ : ∃ z, 12 + 4 * D = z := ⟨_, rfl⟩
  rw [hL] at OI ILN ⊢
  have HL := Lib.hid hL
  have L4 : L % 4 = 0 := by omega
  have L172 : L ≤ 172 := by omega
  have L12 : 12 ≤ L := by omega
  clear hL IMG NEW hr FI
  go_upto_region 10 with fail
  go_loopw [15, 16, 17, 18] (fun s e a i wr => ∃ (k at_ : Nat) (R : List (Nat × Nat)), k ≤ n2 ∧ a = .int .i64 at_ ∧ i = .int .i64 k ∧ Hid (Ch 0 R at_) ∧ at_ % 4 = 0 ∧ at_ ≤ L ∧ (∃ sa sc ea ec, s = .slice sa R.length sc ∧ e = .slice ea R.length ec ∧ Hid (Two wr w3.heap.size (.slice sa R.length sc) (.slice ea R.length ec) R)) ∧ Below w3.heap.size w3 wr) (fun _ _ _ i _ => n2 - (intOf i).toNat)
  case atStart => exact ⟨0, 0, [], by omega, rfl, rfl, Lib.hid rfl, rfl, by omega, ⟨none, 0, none, 0, rfl, rfl, Lib.hid (Two.nil _ _)⟩, Below.refl _ _⟩
  case round =>
    obtain ⟨k, at_, R, hk, rfl, rfl, CH, at4, atL, ⟨sa, sc, ea, ec, rfl, rfl, TW⟩, hb⟩ := hrel
    have BB := Lib.hid hb
    clear hb
    have RL := Lib.hid (show R.length ≤ 43 by have := CH.out.le; omega)
    go_upto_region 10 with fail
    go_cut [75] (fun s wx => s = .bool (decide (k < n2) && decide (at_ < L)) ∧ wx = wr)
    case first =>
      by_cases hk2 : k < n2
      · by_cases ha2 : at_ < L
        · go_wp2
          go_meet
          exact ⟨by simp [hk2, ha2], rfl⟩
        · go_wp2
          go_meet
          exact ⟨by simp [hk2, ha2], rfl⟩
      · go_wp2
        go_meet
        exact ⟨by simp [hk2], rfl⟩
    case rest =>
      obtain ⟨rfl, rfl⟩ := hcut
      by_cases hboth : k < n2 ∧ at_ < L
      · obtain ⟨hk2, ha2⟩ := hboth
        rw [decide_eq_true hk2, decide_eq_true ha2, Bool.and_true]
        have V2r := Lib.hid (V2.out.below (gr_tr D3.out BB.out))
        obtain ⟨z, hz⟩ : ∃ z, sz[k]? = some z := ⟨_, List.getElem?_eq_getElem (by rw [N2.out]; exact hk2)⟩
        obtain ⟨ax, cx, hx, -, -, -, hrow⟩ := V2r.out
        obtain ⟨g2, o2, hax, hcell⟩ := Row.at hrow (i := k) (v := .int .u8 (uv z)) (by rw [by8_get, hz]; rfl)
        injection hx with hx1 hx2 hx3
        subst hx1; subst hx3
        subst hax
        obtain ⟨m, hm⟩ : ∃ m, z.toNat % 8 = m := ⟨_, rfl⟩
        have hm7 : m ≤ 7 := by omega
        have hz8 : (uv z).tmod 8 = (m : Int) := by
          rw [Int.tmod_eq_emod_of_nonneg (uv_nonneg _)]
          unfold uv; omega
        obtain ⟨nn, hnn⟩ : ∃ nn, min (4 + 4 * m) (L - at_) = nn := ⟨_, rfl⟩
        have hn4 : nn % 4 = 0 ∧ 0 < nn ∧ at_ + nn ≤ L := by omega
        have HNN := Lib.hid hnn
        clear hz hrow hm hx2
        go_upto_region 12 with fail
        go_cut [19] (fun s wx => s = .int .i64 (nn : Int) ∧ wx = wc)
        case first =>
          go_wp2
          go_meet
          refine ⟨?_, rfl⟩
          have := HNN.out
          congr 1
          omega
        case rest =>
          obtain ⟨rfl, rfl⟩ := hcut
          clear hcell hz8
          obtain ⟨hn4, hn0, hnL⟩ := hn4
          have BW := Lib.hid (show w3.heap.size ≤ wc.heap.size from BB.out.size)
          go_upto_region 14 with (first
            | (at_builtin; go_loud (refine app_int rfl (.tmp 91) (.tmp 93) rfl (.slice sa R.length sc) w3.heap.size R.length (sI R) rfl (own_below TW.out.s (gr_alloc _ _)) (Nat.le_trans BW.out (gr_alloc wc _).size) wc.heap.size (at_ : Int) rfl (heap_alloc_new _ _) (by have := RL.out; omega) ?_; intro v1 w5 p1 p2 p3; have O5 := Lib.hid p1; have G5 := Lib.hid p2; have F5 := Lib.hid p3; clear p1 p2 p3))
            | (at_builtin; go_loud (refine app_int rfl (.tmp 95) (.tmp 99) rfl (.slice ea R.length ec) w3.heap.size R.length (eI R) rfl (TW.out.e1 G5.out) (by have h1 := G5.out.size; have h2 := (gr_alloc wc (.cells #[.int .i64 (at_ : Int)] 3)).size; have h3 := (gr_alloc w5 (.cells #[.int .i64 ((at_ : Int) + (nn : Int))] 3)).size; have := BW.out; omega) w5.heap.size ((at_ : Int) + (nn : Int)) rfl (heap_alloc_new _ _) (by have := RL.out; omega) ?_; intro v2 w6 p1 p2 p3; have O6 := Lib.hid p1; have G6 := Lib.hid p2; have F6 := Lib.hid p3; clear p1 p2 p3)))
          obtain ⟨sa', sc', rfl⟩ := own_shape O5.out
          obtain ⟨ea', ec', rfl⟩ := own_shape O6.out
          have TN := Lib.hid (show Two w6 w3.heap.size (.slice sa' (R.length + 1) sc') (.slice ea' (R.length + 1) ec') (R ++ [(at_, at_ + nn)]) from TW.out.push G5.out O5.out F5.out G6.out (by rw [show ((at_ + nn : Nat) : Int) = (at_ : Int) + (nn : Int) by omega]; exact O6.out) F6.out)
          have B6 := Lib.hid (BB.out.trans (TW.out.bel BW.out G5.out G6.out))
          have CN := Lib.hid (CH.out.snoc (show at_ < at_ + nn by omega) at4 (by omega))
          have LN := Lib.hid (show (R ++ [(at_, at_ + nn)]).length = R.length + 1 by simp)
          go_wp2
          go_roundw
          case rel => exact ⟨k + 1, at_ + nn, R ++ [(at_, at_ + nn)], by omega, by go_num, by go_num, CN, by omega, by omega, ⟨sa', sc', ea', ec', by rw [LN.out], by rw [LN.out], by rw [LN.out]; exact TN⟩, B6.out⟩
          case measure => simp [intOf]; omega
      · have hd : (decide (k < n2) && decide (at_ < L)) = false := by
          rw [Bool.and_eq_false_iff]
          simp only [decide_eq_false_iff_not]
          omega
        rw [hd]
        clear hd hboth
        go_upto_if 107 with fail
        go_cut [15, 16] (fun s e wx => ∃ (R : List (Nat × Nat)), Hid (Ch 0 R L) ∧ (∃ sa sc ea ec, s = .slice sa R.length sc ∧ e = .slice ea R.length ec ∧ Hid (Two wx w3.heap.size (.slice sa R.length sc) (.slice ea R.length ec) R)) ∧ Hid (Below w3.heap.size w3 wx))
        case first =>
          by_cases ha2 : at_ < L
          · have BW := Lib.hid (show w3.heap.size ≤ wc.heap.size from Nat.le_trans (Nat.le_refl _) BB.out.size)
            go_upto_region 17 with (first
              | (at_builtin; go_loud (refine app_int rfl (.tmp 108) (.tmp 110) rfl (.slice sa R.length sc) w3.heap.size R.length (sI R) rfl (own_below TW.out.s (gr_alloc _ _)) (Nat.le_trans BW.out (gr_alloc wc _).size) wc.heap.size (at_ : Int) rfl (heap_alloc_new _ _) (by have := RL.out; omega) ?_; intro v1 w5 p1 p2 p3; have O5 := Lib.hid p1; have G5 := Lib.hid p2; have F5 := Lib.hid p3; clear p1 p2 p3))
              | (at_builtin; go_loud (refine app_int rfl (.tmp 112) (.tmp 115) rfl (.slice ea R.length ec) w3.heap.size R.length (eI R) rfl (TW.out.e1 G5.out) (by have h1 := G5.out.size; have h2 := (gr_alloc wc (.cells #[.int .i64 (at_ : Int)] 3)).size; have h3 := (gr_alloc w5 (.cells #[.int .i64 (L : Int)] 3)).size; have := BW.out; omega) w5.heap.size (L : Int) rfl (heap_alloc_new _ _) (by have := RL.out; omega) ?_; intro v2 w6 p1 p2 p3; have O6 := Lib.hid p1; have G6 := Lib.hid p2; have F6 := Lib.hid p3; clear p1 p2 p3)))
            obtain ⟨sa', sc', rfl⟩ := own_shape O5.out
            obtain ⟨ea', ec', rfl⟩ := own_shape O6.out
            have LN := Lib.hid (show (R ++ [(at_, L)]).length = R.length + 1 by simp)
            go_meet
            exact ⟨R ++ [(at_, L)], Lib.hid (CH.out.snoc ha2 at4 L4), ⟨sa', sc', ea', ec', by rw [LN.out], by rw [LN.out], by rw [LN.out]; exact Lib.hid (TW.out.push G5.out O5.out F5.out G6.out O6.out F6.out)⟩, Lib.hid (BB.out.trans (TW.out.bel BW.out G5.out G6.out))⟩
          · obtain rfl : at_ = L := by omega
            go_wp2
            go_meet
            exact ⟨R, CH, ⟨sa, sc, ea, ec, rfl, rfl, TW⟩, BB⟩
        case rest =>
          clear CH TW BB RL at4 atL hk
          obtain ⟨R0, CH, ⟨sa, sc, ea, ec, rfl, rfl, TW⟩, BB⟩ := hcut
          have INV := Lib.hid (show Inv im R0 [] from Inv.start (by rw [ILN.out]; exact CH.out))
          have RL := Lib.hid (show R0.length ≤ 43 by have := CH.out.le; omega)
          have BX := Lib.hid (gr_tr (gr_tr B2.out B3.out) BB.out)
          have SL := Lib.hid (show SlAt wc p (stP []) (.slice none 0 0) [] from S1.out.below BX.out)
          have OX := Lib.hid (own_base (own_below OI.out BB.out) (Nat.zero_le _))
          have DW := Lib.hid (gr_tr D3.out BB.out)
          have W3L := Lib.hid (show w3.heap.size ≤ wc.heap.size from BB.out.size)
          have W3W := Lib.hid (show w.heap.size ≤ w3.heap.size from D3.out.size)
          have P3 := Lib.hid (show p < w3.heap.size from Nat.lt_of_lt_of_le (Array.getElem?_eq_some_iff.1 S1.out.blk).1 (gr_tr B2.out B3.out).size)
          clear CH BX S1 OI D1 D2 B2 B3 M2 BB
          go_upto_region 18 with fail
          go_loopw [15, 16, 20] (fun s e i wr => ∃ (k : Nat) (R : List (Nat × Nat)) (ps : List Pc) (lv : Value) (dvs : List Value), i = .int .i64 k ∧ k + R.length ≤ 43 ∧ Hid (Inv im R ps) ∧ (∃ sa sc ea ec, s = .slice sa R.length sc ∧ e = .slice ea R.length ec ∧ Hid (Two wr w3.heap.size (.slice sa R.length sc) (.slice ea R.length ec) R)) ∧ Hid (SlAt wr p (stP ps) lv dvs) ∧ Hid (wr.ownsRow 0 5 1 (.slice (some ⟨gi, 0, none⟩) L ci) L (by8 im)) ∧ Hid (Below w.heap.size w wr) ∧ Hid (w3.heap.size ≤ wr.heap.size)) (fun s _ _ _ => match s with | .slice _ n _ => n | _ => 0)
          case atStart => exact ⟨0, R0, [], _, _, rfl, by have := RL.out; omega, INV, ⟨sa, sc, ea, ec, rfl, rfl, TW⟩, SL, OX, DW, W3L⟩
          case round =>
            clear INV RL TW SL OX DW W3L
            obtain ⟨k, R, ps, lv, dvs, rfl, hkR, INV, ⟨sa, sc, ea, ec, rfl, rfl, TW⟩, SL, OX, DW, W3L⟩ := hrel
            obtain ⟨n, hn⟩ : ∃ n, R.length = n := ⟨_, rfl⟩
            have RN := Lib.hid hn
            rw [hn] at hkR TW
            by_cases h0 : 0 < n
            · rw [hn]
              clear hn
              go_upto_if 125 with fail
              go_cut [21] (fun s wx => ∃ kk : Nat, kk < n ∧ s = .int .i64 (kk : Int) ∧ wx = wr)
              case first =>
                by_cases hk3 : k < n3
                · have V3r := Lib.hid (V3.out.below DW.out)
                  obtain ⟨z, hz⟩ : ∃ z, od[k]? = some z := ⟨_, List.getElem?_eq_getElem (by rw [N3.out]; exact hk3)⟩
                  obtain ⟨ax, cx, hx, -, -, -, hrow⟩ := V3r.out
                  obtain ⟨g2, o2, hax, hcell⟩ := Row.at hrow (i := k) (v := .int .u8 (uv z)) (by rw [by8_get, hz]; rfl)
                  injection hx with hx1 hx2 hx3
                  subst hx1; subst hx3
                  subst hax
                  have hz8 : (uv z).tmod (n : Int) = ((z.toNat % n : Nat) : Int) := by
                    rw [Int.tmod_eq_emod_of_nonneg (uv_nonneg _)]
                    unfold uv; omega
                  have hml : z.toNat % n < n := Nat.mod_lt _ h0
                  have hn0 : ((n : Int) == 0) = false := by rw [beq_eq_false_iff_ne]; omega
                  have hn0' : ¬ (n : Int) = 0 := by omega
                  have hwz : IntKind.i64.wrap (uv z) = uv z := by rw [IntKind.wrap_i64]; have := z.isLt; unfold uv; omega
                  have HML := Lib.hid hml; have HWZ := Lib.hid hwz; have HZ8 := Lib.hid hz8
                  clear hz hrow hx2 hml
                  go_wp2
                  go_meet
                  exact ⟨z.toNat % n, HML.out, by simp, rfl⟩
                · go_wp2
                  go_meet
                  exact ⟨0, h0, rfl, rfl⟩
              case rest =>
                obtain ⟨kk, hkk, rfl, rfl⟩ := hcut
                obtain ⟨⟨s, e⟩, hR⟩ : ∃ p, R[kk]? = some p := ⟨_, List.getElem?_eq_getElem (by rw [RN.out]; exact hkk)⟩
                have HR := Lib.hid hR
                obtain ⟨gs, hgs, cs1⟩ := TW.out.cellS hR
                subst hgs
                obtain ⟨ge, hge, ce1⟩ := TW.out.cellE hR
                subst hge
                obtain ⟨iv, -, dl, m1, m2, m3, m4⟩ := INV.out.step hR
                obtain ⟨dE, dS⟩ := stP_dl INV.out (by rw [ILN.out]; omega) hR
                rw [ILN.out] at m4
                obtain ⟨u2, hb2, hsl, -⟩ := BytesV.cut (P := Tryz.prog) (T := 42) (E := 5) Tryz.underlying42 (by kernel_rfl) (BytesV.of_own (w := wc) (by rw [ILN.out]; exact OX.out)) s e (by omega) (by rw [ILN.out]; exact m4)
                rw [List.drop_take] at hb2
                obtain ⟨d, hd⟩ : ∃ z, (im.drop s).take (e - s) = z := ⟨_, rfl⟩
                rw [hd] at iv dl dE dS hb2
                obtain ⟨ps', hps⟩ : ∃ z, ins s d ps = z := ⟨_, rfl⟩
                rw [hps] at iv dS
                have INV2 := Lib.hid iv
                obtain ⟨se, hse⟩ : ∃ z, stL 0 = z := ⟨_, rfl⟩
                have DLD := Lib.hid (show ∀ (W' : World) (v : Value), SlAt W' p (stP ps) lv dvs → BytesV W' v d → Calls Tryz.prog 21 #[.pointer (some ⟨p, 0, none⟩), .int .u32 (s : Int), v] W' (fun e w' => ∃ lv' dvs', e = .returned (.agg se.toArray) ∧ SlAt w' p (stP ps') lv' dvs' ∧ Chg (fun k => k = p) W' w') from fun W' v h hv => (Download_at p (stP ps) lv dvs s v d W' h hv (by omega) (by omega)).mono (by
                  rintro e w' ⟨lv', dvs', rfl, h1, -, h3⟩
                  rw [dS] at h1
                  exact ⟨lv', dvs', by rw [dE, ← hse]; rfl, h1, h3⟩))
                have ISA := Lib.hid (show ∀ w, Calls Tryz.prog 20 #[.agg se.toArray, .int .i64 0] w (fun e w' => e = .returned (.bool true) ∧ Below w.heap.size w w') from fun w => by rw [← hse]; exact is_at 0 0 true w Kn.k0 rfl)
                have B2v := Lib.hid hb2
                have kcs := fun y : KeepT (fun k => k = p) wc => KeepT.cell y cs1 (fun h => by have h' : gs = p := h; have := (TW.out.s.lt gs rfl).1; have := P3.out; omega)
                have kce := fun y : KeepT (fun k => k = p) wc => KeepT.cell y ce1 (fun h => by have h' : ge = p := h; have := (TW.out.e.lt ge rfl).1; have := P3.out; omega)
                have hw1 : IntKind.u32.wrap (s : Int) = (s : Int) := by rw [IntKind.wrap_u32]; omega
                have HKK := Lib.hid hkk
                clear iv dl dE dS hb2 hd hps hse hR
                go_upto_region 23 with fail
                refine wp_calm ?_
                refine wp_region_planW (fun k => k = p) [(true, 0), (true, 1), (true, 2), (true, 3), (true, 4), (true, 5), (true, 6), (true, 7), (true, 8), (true, 9), (true, 10), (true, 11), (true, 12), (true, 13), (true, 14), (true, 15), (false, 16), (false, 17), (true, 18)] (by kernel_rfl) (by kernel_rfl) (by intro c a d v w h; cases d <;> exact h) ?_
                intro W1 K1 C1
                repeat (refine wpS_firm rfl (fun K hK => ?_); simp only [Keep]; go_simp; refine hK _ ?_; clear hK K)
                refine wpS_chain rfl ?_
                go_wp2_with (go_at_call 21; go_loud (refine (DLD.out _ _ (SL.out.below C1.out) (B2v.out.below C1.out)).mono ?_; rintro e w4 ⟨lv', dvs', rfl, h1, h3⟩; have SL4 := Lib.hid h1; have CH4 := Lib.hid h3; have K4 := Lib.hid (K1.out.chgK h3 (fun k hk => .inl hk)); clear h1 h3))
                refine ⟨K4.out, ?_⟩
                refine wpS_chain rfl ?_
                go_wp2_with (go_at_call 20; go_loud (refine (ISA.out _).mono ?_; rintro e w5 ⟨rfl, hb⟩; have B5 := Lib.hid hb; have K5 := Lib.hid (K4.out.below hb); clear hb))
                refine ⟨K5.out, ?_⟩
                repeat (refine wpS_firm rfl (fun K hK => ?_); simp only [Keep]; go_simp; refine hK _ ?_; clear hK K)
                unfold wpS
                clear kcs kce cs1 ce1
                have PB := Lib.hid (show ∀ (t : TypeId), True from fun _ => trivial)
                have SB := Lib.hid (blk_below SL.out.blk C1.out)
                have TW5 := Lib.hid (((TW.out.below C1.out).set SB.out (by decide) CH4.out).below B5.out)
                have OX5 := Lib.hid (own_below (own_chg (own_below OX.out C1.out) CH4.out (fun k hk e => own_apartB2 (own_below OX.out C1.out) SB.out (by decide) (by have e' : k = p := e; subst e'; exact hk))) B5.out)
                have SL5 := Lib.hid (SL4.out.below B5.out)
                have DW5 := Lib.hid (gr_tr ((gr_tr DW.out C1.out).trans (CH4.out.below (fun k e => by have e' : k = p := e; have := PL.out; omega) (gr_tr DW.out C1.out).size)) B5.out)
                have W35 := Lib.hid (show w3.heap.size ≤ w5.heap.size from Nat.le_trans W3L.out (Nat.le_trans C1.out.size (Nat.le_trans CH4.out.size B5.out.size)))
                clear TW OX SL DW W3L SL4 CH4 K1 K4 K5 C1 B5 SB DLD ISA B2v INV PB hsl
                go_upto_region 25 with fail
                have hkn : kk < n := HKK.out
                have hcs : n ≤ sc := by obtain ⟨-, h | ⟨g, cap, cur, hv, -, -, hc, -⟩⟩ := TW5.out.s; (· have := RN.out; omega); (injection hv with h1 h2 h3; have := RN.out; omega)
                have hce : n ≤ ec := by obtain ⟨-, h | ⟨g, cap, cur, hv, -, -, hc, -⟩⟩ := TW5.out.e; (· have := RN.out; omega); (injection hv with h1 h2 h3; have := RN.out; omega)
                have hcsm : sc ≤ 9223372036854775807 := by obtain ⟨-, h | ⟨g, cap, cur, hv, -, -, -, hm, -⟩⟩ := TW5.out.s; (· have := RN.out; omega); (injection hv with h1 h2 h3; have : cap ≤ 9223372036854775807 := hm; omega)
                have hcem : ec ≤ 9223372036854775807 := by obtain ⟨-, h | ⟨g, cap, cur, hv, -, -, -, hm, -⟩⟩ := TW5.out.e; (· have := RN.out; omega); (injection hv with h1 h2 h3; have : cap ≤ 9223372036854775807 := hm; omega)
                have iu : Tryz.prog.underlying 53 = some (.slice (Tryz.prog.elem 53)) := by kernel_rfl
                have iz : ∀ w', (sizeOf (Tryz.prog.elem 53)).run Tryz.prog w' = .ok 1 w' := fun w' => by kernel_rfl
                have r1 : ∀ w', (Instr.slice 53 (.slice (some ⟨gs, 0, none⟩) n sc) none (some (.int .i64 (kk : Int))) none).run Tryz.prog w' = .ok (.slice (some ⟨gs, 0, none⟩) kk sc) w' := fun w' => by
                  rw [run_slice_h w' 53 _ n sc iu .i64 kk (by omega) (by omega), iz]
                  simp [Result.andThen, sliced, Addr.add]
                have r2 : ∀ w', (Instr.slice 53 (.slice (some ⟨gs, 0, none⟩) n sc) (some (.int .i64 ((kk : Int) + 1))) none none).run Tryz.prog w' = .ok (.slice (if sc = kk + 1 then some ⟨gs, 0, none⟩ else some ⟨gs, kk + 1, none⟩) (n - (kk + 1)) (sc - (kk + 1))) w' := fun w' => by
                  rw [run_slice_l w' 53 _ n sc iu .i64 ((kk : Int) + 1) (by omega) (by omega), iz]
                  simp [Result.andThen, sliced, Addr.add, show ((kk : Int) + 1).toNat = kk + 1 by omega]
                have r3 : ∀ w', (Instr.slice 53 (.slice (some ⟨ge, 0, none⟩) n ec) none (some (.int .i64 (kk : Int))) none).run Tryz.prog w' = .ok (.slice (some ⟨ge, 0, none⟩) kk ec) w' := fun w' => by
                  rw [run_slice_h w' 53 _ n ec iu .i64 kk (by omega) (by omega), iz]
                  simp [Result.andThen, sliced, Addr.add]
                have r4 : ∀ w', (Instr.slice 53 (.slice (some ⟨ge, 0, none⟩) n ec) (some (.int .i64 ((kk : Int) + 1))) none none).run Tryz.prog w' = .ok (.slice (if ec = kk + 1 then some ⟨ge, 0, none⟩ else some ⟨ge, kk + 1, none⟩) (n - (kk + 1)) (ec - (kk + 1))) w' := fun w' => by
                  rw [run_slice_l w' 53 _ n ec iu .i64 ((kk : Int) + 1) (by omega) (by omega), iz]
                  simp [Result.andThen, sliced, Addr.add, show ((kk : Int) + 1).toNat = kk + 1 by omega]
                obtain ⟨as2, has2⟩ : ∃ z, (if sc = kk + 1 then some (⟨gs, 0, none⟩ : Addr) else some ⟨gs, kk + 1, none⟩) = z := ⟨_, rfl⟩
                obtain ⟨ae2, hae2⟩ : ∃ z, (if ec = kk + 1 then some (⟨ge, 0, none⟩ : Addr) else some ⟨ge, kk + 1, none⟩) = z := ⟨_, rfl⟩
                rw [has2] at r2
                rw [hae2] at r4
                have nas : as2 = none → sc - (kk + 1) = 0 := fun h => by rw [← has2] at h; split at h <;> cases h
                have nae : ae2 = none → ec - (kk + 1) = 0 := fun h => by rw [← hae2] at h; split at h <;> cases h
                have NAS := Lib.hid nas; have NAE := Lib.hid nae
                have ROWS := Lib.hid (show ∀ W, Below w5.heap.size w5 W → Row W (some ⟨gs, 0, none⟩) (ints (sI (R.take kk))) ∧ Row W as2 (ints (sI (R.drop (kk + 1)))) ∧ Row W (some ⟨ge, 0, none⟩) (ints (eI (R.take kk))) ∧ Row W ae2 (ints (eI (R.drop (kk + 1)))) from fun W hW => by
                  have t := TW5.out.below hW
                  have t1 := t.s
                  have t2 := t.e
                  rw [RN.out] at t1 t2
                  have q1 := Row.of_own t1
                  have q2 := Row.of_own t2
                  have e1 : ints (sI (R.take kk)) = (ints (sI R)).take kk := by unfold ints sI; rw [← List.map_take, ← List.map_take]
                  have e2 : ints (sI (R.drop (kk + 1))) = (ints (sI R)).drop (kk + 1) := by unfold ints sI; rw [← List.map_drop, ← List.map_drop]
                  have e3 : ints (eI (R.take kk)) = (ints (eI R)).take kk := by unfold ints eI; rw [← List.map_take, ← List.map_take]
                  have e4 : ints (eI (R.drop (kk + 1))) = (ints (eI R)).drop (kk + 1) := by unfold ints eI; rw [← List.map_drop, ← List.map_drop]
                  refine ⟨by rw [e1]; exact q1.take kk, ?_, by rw [e3]; exact q2.take kk, ?_⟩
                  · rw [e2, ← has2]; exact tail_row q1 (by rw [ints_len, sI_len, RN.out]) hcs
                  · rw [e4, ← hae2]; exact tail_row q2 (by rw [ints_len, eI_len, RN.out]) hce)
                have LT := Lib.hid (show (R.take kk).length = kk by rw [List.length_take, RN.out]; omega)
                have LD := Lib.hid (show (R.drop (kk + 1)).length = n - (kk + 1) by rw [List.length_drop, RN.out])
                have hw2 : IntKind.i64.wrap ((kk : Int) + 1) = (kk : Int) + 1 := by rw [IntKind.wrap_i64]; omega
                have HCS := Lib.hid hcs; have HCE := Lib.hid hce; have HKR := Lib.hid hkR
                clear nas nae has2 hae2 iu iz hcsm hcem
                refine wp_calm ?_
                refine wp_region_planW nowhere [(true, 0), (true, 1), (true, 2), (true, 4), (true, 5), (true, 6), (true, 7), (true, 9), (true, 10), (true, 11), (true, 13), (true, 14), (true, 15), (true, 16), (false, 3), (false, 8), (false, 12), (false, 17), (true, 18), (true, 19)] (by kernel_rfl) (by kernel_rfl) (by intro c a d v w h; cases d <;> exact h) ?_
                intro W1 K1 C1
                repeat (refine wpS_firm rfl (fun K hK => ?_); simp only [Keep]; go_simp; refine hK _ ?_; clear hK K)
                have BS := Lib.hid (show w3.heap.size ≤ W1.heap.size from Nat.le_trans W35.out C1.out.size)
                refine wpS_chain rfl ?_
                go_wp2_with (go_loud (refine app_law_at intsOk rfl (.const (.slice none 0 0)) (.tmp 155) rfl w3.heap.size (.slice none 0 0) 0 [] rfl (World.ownsRow_nil _ _ _ _) (some ⟨gs, 0, none⟩) kk sc (ints (sI (R.take kk))) rfl (fun h => by cases h) (by have := HCS.out; have := HKK.out; omega) (ROWS.out W1 C1.out).1 (by rw [ints_len, sI_len, LT.out, Nat.mul_one]) (ints_one _) (by have := HKR.out; have := HKK.out; omega) (by have := HKR.out; have := HKK.out; omega) BS.out ?_; intro v3 w7 p1 p2 p3; rw [Nat.zero_add, List.nil_append] at p1; have O3 := Lib.hid p1; have G3 := Lib.hid p2; have F3 := Lib.hid p3; clear p1 p2 p3))
                have B7 := Lib.hid ((Below.refl W1.heap.size W1).grown G3.out (Nat.le_refl _) (fun j hj => by cases hj))
                have K7 := Lib.hid (K1.out.below B7.out)
                refine ⟨K7.out, ?_⟩
                refine wpS_chain rfl ?_
                go_wp2_with (go_loud (refine app_law_at intsOk rfl (.tmp 156) (.tmp 160) rfl w3.heap.size v3 kk (ints (sI (R.take kk))) rfl O3.out as2 (n - (kk + 1)) (sc - (kk + 1)) (ints (sI (R.drop (kk + 1)))) rfl NAS.out (by have := HCS.out; omega) (ROWS.out w7 (gr_tr C1.out B7.out)).2.1 (by rw [ints_len, sI_len, LD.out, Nat.mul_one]) (ints_one _) (by have := HKR.out; have := HKK.out; omega) (by have := HKR.out; have := HKK.out; omega) (Nat.le_trans BS.out B7.out.size) ?_; intro v4 w8 p1 p2 p3; have O4 := Lib.hid p1; have G4 := Lib.hid p2; have F4 := Lib.hid p3; clear p1 p2 p3))
                have V3K := Lib.hid (show ∀ j, v3.ownBlock = some j → j = W1.heap.size from fun j hj => by
                  rcases F3.out with d | d
                  · rw [d] at hj; cases hj
                  · rw [d] at hj; cases hj; rfl)
                have B8 := Lib.hid (B7.out.grown G4.out B7.out.size (fun j hj => by have := V3K.out j hj; omega))
                have K8 := Lib.hid (K1.out.below B8.out)
                refine ⟨K8.out, ?_⟩
                refine wpS_chain rfl ?_
                go_wp2_with (go_loud (refine app_law_at intsOk rfl (.const (.slice none 0 0)) (.tmp 164) rfl w3.heap.size (.slice none 0 0) 0 [] rfl (World.ownsRow_nil _ _ _ _) (some ⟨ge, 0, none⟩) kk ec (ints (eI (R.take kk))) rfl (fun h => by cases h) (by have := HCE.out; have := HKK.out; omega) (ROWS.out w8 (gr_tr C1.out B8.out)).2.2.1 (by rw [ints_len, eI_len, LT.out, Nat.mul_one]) (ints_one _) (by have := HKR.out; have := HKK.out; omega) (by have := HKR.out; have := HKK.out; omega) (Nat.le_trans BS.out B8.out.size) ?_; intro v5 w9 p1 p2 p3; rw [Nat.zero_add, List.nil_append] at p1; have O5 := Lib.hid p1; have G5 := Lib.hid p2; have F5 := Lib.hid p3; clear p1 p2 p3))
                have B9 := Lib.hid (B8.out.grown G5.out B8.out.size (fun j hj => by cases hj))
                have K9 := Lib.hid (K1.out.below B9.out)
                refine ⟨K9.out, ?_⟩
                refine wpS_chain rfl ?_
                go_wp2_with (go_loud (refine app_law_at intsOk rfl (.tmp 165) (.tmp 169) rfl w3.heap.size v5 kk (ints (eI (R.take kk))) rfl O5.out ae2 (n - (kk + 1)) (ec - (kk + 1)) (ints (eI (R.drop (kk + 1)))) rfl NAE.out (by have := HCE.out; omega) (ROWS.out w9 (gr_tr C1.out B9.out)).2.2.2 (by rw [ints_len, eI_len, LD.out, Nat.mul_one]) (ints_one _) (by have := HKR.out; have := HKK.out; omega) (by have := HKR.out; have := HKK.out; omega) (Nat.le_trans BS.out B9.out.size) ?_; intro v6 w10 p1 p2 p3; have O6 := Lib.hid p1; have G6 := Lib.hid p2; have F6 := Lib.hid p3; clear p1 p2 p3))
                have RL2 := Lib.hid (show (R.take kk ++ R.drop (kk + 1)).length = kk + (n - (kk + 1)) by rw [List.length_append, LT.out, LD.out])
                obtain ⟨tw, hb10⟩ := Two.cutAt (R' := R.take kk ++ R.drop (kk + 1)) RL2.out (show ints (sI (R.take kk)) ++ ints (sI (R.drop (kk + 1))) = _ by unfold ints sI; rw [← List.map_append, ← List.map_append]) (show ints (eI (R.take kk)) ++ ints (eI (R.drop (kk + 1))) = _ by unfold ints eI; rw [← List.map_append, ← List.map_append]) G3.out F3.out O4.out G4.out F4.out G5.out F5.out O6.out G6.out F6.out
                have TW10 := Lib.hid tw; have B10 := Lib.hid hb10
                have K10 := Lib.hid (K1.out.below B10.out)
                clear tw hb10
                refine ⟨K10.out, ?_⟩
                obtain ⟨sa', sc', rfl⟩ := own_shape O4.out
                obtain ⟨ea', ec', rfl⟩ := own_shape O6.out
                repeat (refine wpS_firm rfl (fun K hK => ?_); simp only [Keep]; go_simp; refine hK _ ?_; clear hK K)
                unfold wpS
                have E10 := Lib.hid (gr_tr C1.out B10.out)
                have SL10 := Lib.hid (SL5.out.below E10.out)
                have OX10 := Lib.hid (own_below OX5.out E10.out)
                have DW10 := Lib.hid (gr_tr DW5.out E10.out)
                have W310 := Lib.hid (show w3.heap.size ≤ w10.heap.size from Nat.le_trans W35.out E10.out.size)
                go_wp2
                go_roundw
                case rel => exact ⟨k + 1, R.take kk ++ R.drop (kk + 1), ps', _, _, by go_num, by rw [RL2.out]; have := HKR.out; have := HKK.out; omega, INV2, ⟨sa', sc', ea', ec', by rw [RL2.out], by rw [RL2.out], by rw [RL2.out]; exact TW10⟩, SL10, OX10, DW10, W310⟩
                case measure => have := HKK.out; simp; omega
            · obtain rfl : R = [] := List.length_eq_zero_iff.1 (by omega)
              obtain rfl : n = 0 := by omega
              have NM := Lib.hid (show nm ps = r from by
                have h1 := INV.out
                rw [← HIM.out] at h1
                exact Inv.nm h1 SL.out.ok.sep HI.out (by rw [List.length_replicate]; omega))
              have NE := Lib.hid (show r ≠ [] from fun e => by have h1 := (revOk_is HI.out).1; rw [e] at h1; simp at h1)
              clear INV OX TW W3L hkR RN hn h0 V2 V3
              obtain rfl | rfl : sl = 2 ∨ sl = 3 := by omega
              · obtain ⟨cE, cM⟩ := stP_cm (k := 2) NM.out NE.out (by decide)
                obtain ⟨y1, hy1⟩ : ∃ z : St, { stP [] with s := { act := 1, nxt := 2, revs := (Fw.new cS).s.revs.set ((2 : Int) - 1).toNat r } } = z := ⟨_, rfl⟩
                rw [hy1] at cM
                have e1 : y1.s.cells = [.int .i64 1, .int .i64 2, .string ⟨#[49, 46, 48]⟩, .string st, .string ⟨#[]⟩, .string ⟨#[]⟩, .string ⟨#[]⟩, .string ⟨#[]⟩, .string ⟨#[]⟩] := by rw [← hy1, ← HST.out]; rfl
                have e2 : (rsS y1).s.cells = [.int .i64 2, .int .i64 0, .string ⟨#[49, 46, 48]⟩, .string st, .string ⟨#[]⟩, .string ⟨#[]⟩, .string ⟨#[]⟩, .string ⟨#[]⟩, .string ⟨#[]⟩] := by rw [← hy1, ← HST.out]; rfl
                have e3 : rsB y1 = true := by rw [← hy1]; rfl
                obtain ⟨se, hse⟩ : ∃ z, stL 0 = z := ⟨_, rfl⟩
                have CMT := Lib.hid (show ∀ W', SlAt W' p (stP ps) lv dvs → Calls Tryz.prog 22 #[.pointer (some ⟨p, 0, none⟩), .int .i64 2, .int .i64 1] W' (fun e w' => ∃ lv' dvs', e = .returned (.agg se.toArray) ∧ SlAt w' p y1 lv' dvs' ∧ Chg (fun k => k = p) W' w') from fun W' h => by
                  have h9 := Commit_at p (stP ps) lv dvs 2 1 W' h
                  rw [cE, cM] at h9
                  rw [← hse]; exact h9)
                have ISA := Lib.hid (show ∀ w, Calls Tryz.prog 20 #[.agg se.toArray, .int .i64 0] w (fun e w' => e = .returned (.bool true) ∧ Below w.heap.size w w') from fun w => by rw [← hse]; exact is_at 0 0 true w Kn.k0 rfl)
                have STA := Lib.hid (fun W' lv dvs (h : SlAt W' p y1 lv dvs) => State_at p y1 lv dvs W' h)
                have STB := Lib.hid (fun W' lv dvs (h : SlAt W' p (rsS y1) lv dvs) => State_at p (rsS y1) lv dvs W' h)
                have RST := Lib.hid (fun W' lv dvs (h : SlAt W' p y1 lv dvs) => Reset_at p y1 lv dvs W' h)
                rw [e1] at STA
                rw [e2] at STB
                rw [e3] at RST
                have E0 := Lib.hid (Below.refl wr.heap.size wr)
                have PW := Lib.hid (show w.heap.size ≤ p from PL.out)
                have hwk : IntKind.i64.wrap ((2 : Int) - 1) = 1 := by rw [IntKind.wrap_i64]; rfl
                clear cE cM hy1 hse e1 e2 e3
                go_upto_region 28 with (first
                  | (go_at_call 22; go_loud (refine (CMT.out _ SL.out).mono ?_; rintro e w4 ⟨lv1, dvs1, rfl, h1, h3⟩; have S4 := Lib.hid h1; have D4 := Lib.hid (DW.out.trans (h3.below (fun k e => by have e' : k = p := e; have := PW.out; omega) DW.out.size)); clear h1 h3))
                  | (go_at_call 20; go_loud (refine (ISA.out _).mono ?_; rintro e w5 ⟨rfl, hb⟩; have S5 := Lib.hid (S4.out.below hb); have D5 := Lib.hid (gr_tr D4.out hb); clear hb)))
                go_upto_region 29 with (first
                  | (go_at_call 23; go_loud (refine (STA.out _ _ _ S5.out).mono ?_; rintro e w6 ⟨rfl, hb⟩; have S6 := Lib.hid (S5.out.below hb); have D6 := Lib.hid (gr_tr D5.out hb); clear hb))
                  | (refine wpList_store_new rfl 34 (.tmp 22) (.tmp 181) rfl #[.int .i64 1, .int .i64 2, .string ⟨#[49, 46, 48]⟩, .string st, .string ⟨#[]⟩, .string ⟨#[]⟩, .string ⟨#[]⟩, .string ⟨#[]⟩, .string ⟨#[]⟩] 34 _ rfl rfl (by kernel_rfl) rfl (by simp [Value.oneCell']) ?_; intro w7 hh hw; have T7 := Lib.hid hh; have S7 := Lib.hid (S6.out.below hw); have D7 := Lib.hid (gr_tr D6.out hw); clear hh hw))
                obtain ⟨gx, hgx⟩ : ∃ z, w6.heap.size = z := ⟨_, rfl⟩
                have PX := Lib.hid (show p < w6.heap.size from (Array.getElem?_eq_some_iff.1 S6.out.blk).1)
                rw [hgx] at T7 PX ⊢
                clear hgx
                go_upto_region 30 with (go_at_call 24; go_loud (refine (RST.out _ _ _ S7.out).mono ?_; rintro e w8 ⟨rfl, h1, h3⟩; have S8 := Lib.hid h1; have D8 := Lib.hid (D7.out.trans (h3.below (fun k e => by have e' : k = p := e; have := PW.out; omega) D7.out.size)); have T8 := Lib.hid (h3.blk T7.out (fun e => by have e' : gx = p := e; have := PX.out; omega)); clear h1 h3))
                go_upto_region 31 with (first
                  | (go_at_call 23; go_loud (refine (STB.out _ _ _ S8.out).mono ?_; rintro e w9 ⟨rfl, hb⟩; have D9 := Lib.hid (gr_tr D8.out hb); have T9 := Lib.hid (blk_below T8.out hb); clear hb))
                  | (refine wpList_store_new rfl 34 (.tmp 25) (.tmp 188) rfl #[.int .i64 2, .int .i64 0, .string ⟨#[49, 46, 48]⟩, .string st, .string ⟨#[]⟩, .string ⟨#[]⟩, .string ⟨#[]⟩, .string ⟨#[]⟩, .string ⟨#[]⟩] 34 _ rfl rfl (by kernel_rfl) rfl (by simp [Value.oneCell']) ?_; intro w10 hh hw; have U10 := Lib.hid hh; have T10 := Lib.hid (blk_below T9.out hw); have D10 := Lib.hid (gr_tr D9.out hw); clear hh hw))
                obtain ⟨gy, hgy⟩ : ∃ z, w9.heap.size = z := ⟨_, rfl⟩
                rw [hgy] at U10 ⊢
                clear hgy
                have x0 : w10.cell? ⟨gx, 0, none⟩ = some (.int .i64 1) := (cell_of_row _ _ 0 _ _ _ T10.out).trans rfl
                have x1 : w10.cell? ⟨gx, 1, none⟩ = some (.int .i64 2) := (cell_of_row _ _ 1 _ _ _ T10.out).trans rfl
                have x2 : w10.cell? ⟨gx, 3, none⟩ = some (.string st) := (cell_of_row _ _ 3 _ _ _ T10.out).trans rfl
                have z0 : w10.cell? ⟨gy, 0, none⟩ = some (.int .i64 2) := (cell_of_row _ _ 0 _ _ _ U10.out).trans rfl
                have z1 : w10.cell? ⟨gy, 1, none⟩ = some (.int .i64 0) := (cell_of_row _ _ 1 _ _ _ U10.out).trans rfl
                have z2 : w10.cell? ⟨gy, 2, none⟩ = some (.string ⟨#[49, 46, 48]⟩) := (cell_of_row _ _ 2 _ _ _ U10.out).trans rfl
                go_wp2_with (go_at_call 12; go_loud ((with_reducible refine (known_any _).mono ?_); rintro e wk ⟨rfl, hbk⟩; have DK := Lib.hid hbk; clear hbk))
                go_ret
                exact ⟨rfl, gr_tr D10.out DK.out⟩
              · obtain ⟨cE, cM⟩ := stP_cm (k := 3) NM.out NE.out (by decide)
                obtain ⟨y1, hy1⟩ : ∃ z : St, { stP [] with s := { act := 1, nxt := 3, revs := (Fw.new cS).s.revs.set ((3 : Int) - 1).toNat r } } = z := ⟨_, rfl⟩
                rw [hy1] at cM
                have e1 : y1.s.cells = [.int .i64 1, .int .i64 3, .string ⟨#[49, 46, 48]⟩, .string ⟨#[]⟩, .string st, .string ⟨#[]⟩, .string ⟨#[]⟩, .string ⟨#[]⟩, .string ⟨#[]⟩] := by rw [← hy1, ← HST.out]; rfl
                have e2 : (rsS y1).s.cells = [.int .i64 3, .int .i64 0, .string ⟨#[49, 46, 48]⟩, .string ⟨#[]⟩, .string st, .string ⟨#[]⟩, .string ⟨#[]⟩, .string ⟨#[]⟩, .string ⟨#[]⟩] := by rw [← hy1, ← HST.out]; rfl
                have e3 : rsB y1 = true := by rw [← hy1]; rfl
                obtain ⟨se, hse⟩ : ∃ z, stL 0 = z := ⟨_, rfl⟩
                have CMT := Lib.hid (show ∀ W', SlAt W' p (stP ps) lv dvs → Calls Tryz.prog 22 #[.pointer (some ⟨p, 0, none⟩), .int .i64 3, .int .i64 1] W' (fun e w' => ∃ lv' dvs', e = .returned (.agg se.toArray) ∧ SlAt w' p y1 lv' dvs' ∧ Chg (fun k => k = p) W' w') from fun W' h => by
                  have h9 := Commit_at p (stP ps) lv dvs 3 1 W' h
                  rw [cE, cM] at h9
                  rw [← hse]; exact h9)
                have ISA := Lib.hid (show ∀ w, Calls Tryz.prog 20 #[.agg se.toArray, .int .i64 0] w (fun e w' => e = .returned (.bool true) ∧ Below w.heap.size w w') from fun w => by rw [← hse]; exact is_at 0 0 true w Kn.k0 rfl)
                have STA := Lib.hid (fun W' lv dvs (h : SlAt W' p y1 lv dvs) => State_at p y1 lv dvs W' h)
                have STB := Lib.hid (fun W' lv dvs (h : SlAt W' p (rsS y1) lv dvs) => State_at p (rsS y1) lv dvs W' h)
                have RST := Lib.hid (fun W' lv dvs (h : SlAt W' p y1 lv dvs) => Reset_at p y1 lv dvs W' h)
                rw [e1] at STA
                rw [e2] at STB
                rw [e3] at RST
                have E0 := Lib.hid (Below.refl wr.heap.size wr)
                have PW := Lib.hid (show w.heap.size ≤ p from PL.out)
                have hwk : IntKind.i64.wrap ((3 : Int) - 1) = 2 := by rw [IntKind.wrap_i64]; rfl
                clear cE cM hy1 hse e1 e2 e3
                go_upto_region 28 with (first
                  | (go_at_call 22; go_loud (refine (CMT.out _ SL.out).mono ?_; rintro e w4 ⟨lv1, dvs1, rfl, h1, h3⟩; have S4 := Lib.hid h1; have D4 := Lib.hid (DW.out.trans (h3.below (fun k e => by have e' : k = p := e; have := PW.out; omega) DW.out.size)); clear h1 h3))
                  | (go_at_call 20; go_loud (refine (ISA.out _).mono ?_; rintro e w5 ⟨rfl, hb⟩; have S5 := Lib.hid (S4.out.below hb); have D5 := Lib.hid (gr_tr D4.out hb); clear hb)))
                go_upto_region 29 with (first
                  | (go_at_call 23; go_loud (refine (STA.out _ _ _ S5.out).mono ?_; rintro e w6 ⟨rfl, hb⟩; have S6 := Lib.hid (S5.out.below hb); have D6 := Lib.hid (gr_tr D5.out hb); clear hb))
                  | (refine wpList_store_new rfl 34 (.tmp 22) (.tmp 181) rfl #[.int .i64 1, .int .i64 3, .string ⟨#[49, 46, 48]⟩, .string ⟨#[]⟩, .string st, .string ⟨#[]⟩, .string ⟨#[]⟩, .string ⟨#[]⟩, .string ⟨#[]⟩] 34 _ rfl rfl (by kernel_rfl) rfl (by simp [Value.oneCell']) ?_; intro w7 hh hw; have T7 := Lib.hid hh; have S7 := Lib.hid (S6.out.below hw); have D7 := Lib.hid (gr_tr D6.out hw); clear hh hw))
                obtain ⟨gx, hgx⟩ : ∃ z, w6.heap.size = z := ⟨_, rfl⟩
                have PX := Lib.hid (show p < w6.heap.size from (Array.getElem?_eq_some_iff.1 S6.out.blk).1)
                rw [hgx] at T7 PX ⊢
                clear hgx
                go_upto_region 30 with (go_at_call 24; go_loud (refine (RST.out _ _ _ S7.out).mono ?_; rintro e w8 ⟨rfl, h1, h3⟩; have S8 := Lib.hid h1; have D8 := Lib.hid (D7.out.trans (h3.below (fun k e => by have e' : k = p := e; have := PW.out; omega) D7.out.size)); have T8 := Lib.hid (h3.blk T7.out (fun e => by have e' : gx = p := e; have := PX.out; omega)); clear h1 h3))
                go_upto_region 31 with (first
                  | (go_at_call 23; go_loud (refine (STB.out _ _ _ S8.out).mono ?_; rintro e w9 ⟨rfl, hb⟩; have D9 := Lib.hid (gr_tr D8.out hb); have T9 := Lib.hid (blk_below T8.out hb); clear hb))
                  | (refine wpList_store_new rfl 34 (.tmp 25) (.tmp 188) rfl #[.int .i64 3, .int .i64 0, .string ⟨#[49, 46, 48]⟩, .string ⟨#[]⟩, .string st, .string ⟨#[]⟩, .string ⟨#[]⟩, .string ⟨#[]⟩, .string ⟨#[]⟩] 34 _ rfl rfl (by kernel_rfl) rfl (by simp [Value.oneCell']) ?_; intro w10 hh hw; have U10 := Lib.hid hh; have T10 := Lib.hid (blk_below T9.out hw); have D10 := Lib.hid (gr_tr D9.out hw); clear hh hw))
                obtain ⟨gy, hgy⟩ : ∃ z, w9.heap.size = z := ⟨_, rfl⟩
                rw [hgy] at U10 ⊢
                clear hgy
                have x0 : w10.cell? ⟨gx, 0, none⟩ = some (.int .i64 1) := (cell_of_row _ _ 0 _ _ _ T10.out).trans rfl
                have x1 : w10.cell? ⟨gx, 1, none⟩ = some (.int .i64 3) := (cell_of_row _ _ 1 _ _ _ T10.out).trans rfl
                have x2 : w10.cell? ⟨gx, 4, none⟩ = some (.string st) := (cell_of_row _ _ 4 _ _ _ T10.out).trans rfl
                have z0 : w10.cell? ⟨gy, 0, none⟩ = some (.int .i64 3) := (cell_of_row _ _ 0 _ _ _ U10.out).trans rfl
                have z1 : w10.cell? ⟨gy, 1, none⟩ = some (.int .i64 0) := (cell_of_row _ _ 1 _ _ _ U10.out).trans rfl
                have z2 : w10.cell? ⟨gy, 2, none⟩ = some (.string ⟨#[49, 46, 48]⟩) := (cell_of_row _ _ 2 _ _ _ U10.out).trans rfl
                go_wp2_with (go_at_call 12; go_loud ((with_reducible refine (known_any _).mono ?_); rintro e wk ⟨rfl, hbk⟩; have DK := Lib.hid hbk; clear hbk))
                go_ret
                exact ⟨rfl, gr_tr D10.out DK.out⟩
/-- FirmwareStores, at any input. -/
theorem lawStores (r : Bs) (dw : Int) (v2 : Value) (sz : Bs) (v3 : Value) (od : Bs) (sl : Int) (w : World) (hr : r.length ≤ 9223372036854775807) (hd : I64 dw) (hv2 : BytesV w v2 sz) (hv3 : BytesV w v3 od) (hs : I64 sl) :
    Calls Tryz.prog 5 #[.string (strOf r), .int .i64 dw, v2, v3, .int .i64 sl] w fun e w' => e = .returned (.bool true) ∧ Below w.heap.size w w' := by
  by_cases h : 20 < r.length ∨ dw < 0 ∨ 40 < dw ∨ sl < 2 ∨ 3 < sl
  · exact lawStores_far r dw sl v2 v3 w h
  · obtain ⟨D, rfl⟩ : ∃ D : Nat, dw = (D : Int) := ⟨dw.toNat, by omega⟩
    cases hi : revOk r
    · exact lawStores_no r D sl v2 v3 w (by omega) (by omega) (by omega) hi
    · exact lawStores_yes r D sl v2 v3 sz od w (by omega) (by omega) ⟨by omega, by omega⟩ hv2 hv3 hi
end Go.Proofs.YtabfmhlhdebcpaaGreatDoor
