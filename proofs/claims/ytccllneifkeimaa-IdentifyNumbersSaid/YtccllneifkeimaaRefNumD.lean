/- The reference's DecodeControllers. -/
import Derived.Test.YtccllneifkeimaaDecNum2
import Derived.Test.YtccllneifkeimaaRefNum
namespace Go.Proofs.Ytccllneifkeimaa
open Go.RowKit Idn Rise
set_option linter.unusedVariables false
set_option linter.unusedSimpArgs false
theorem get2_lt (l : List (BitVec 8)) (a : Nat) (h : a + 2 ≤ l.length) : (Wire.getV (cutL l a 2)).toNat < 65536 := by
  rw [(getV_cut h (by decide) (by decide)).1]
  have hl := cutL_len h
  have hh := Wire.get_high (cutL l a 2) (by omega)
  rw [hl] at hh
  have h2 := congrArg BitVec.toNat hh
  rw [BitVec.toNat_ushiftRight, Nat.shiftRight_eq_div_pow] at h2
  have hz : (0#64).toNat = 0 := rfl
  rw [hz] at h2
  omega
theorem row16_new (w : World) (y : BitVec 16) : Row (w.alloc (.cells #[.int .u16 (uv y)] 22)) (some ⟨w.heap.size, 0, none⟩) [.int .u16 (uv y)] := by
  refine .inr ⟨w.heap.size, 0, rfl, fun i hi => ?_⟩
  rw [cell_of_row _ _ _ _ _ _ (heap_alloc_new w _)]; simp
theorem rEncN_ok (v : Value) (l : List (BitVec 16)) (w : World) (hv : SliceV w S16 v l) (hl : l.length ≤ 1000000) (h : okN l = true) :
    Calls Try.prog 31 #[v] w fun e w' => ∃ u, e = .returned (.tuple #[u, .int .i64 0]) ∧ BytesV w' u (numB l) ∧ Below w.heap.size w w' :=
  (rEncN_any v l w hv hl).mono fun e w' ⟨hd, hw⟩ => by
    rcases hd with ⟨_, g, he, ho⟩ | ⟨hn, _⟩
    · exact ⟨_, he, ho.bytes, hw⟩
    · rw [h] at hn; cases hn
theorem rEncN_no (v : Value) (l : List (BitVec 16)) (w : World) (hv : SliceV w S16 v l) (hl : l.length ≤ 1000000) (h : okN l = false) :
    Calls Try.prog 31 #[v] w fun e w' => e = .returned (.tuple #[.slice none 0 0, .int .i64 2]) ∧ Below w.heap.size w w' :=
  (rEncN_any v l w hv hl).mono fun e w' ⟨hd, hw⟩ => by
    rcases hd with ⟨hn, _⟩ | ⟨_, he⟩
    · rw [h] at hn; cases hn
    · exact ⟨he, hw⟩
set_option maxHeartbeats 6400000 in
set_option maxRecDepth 100000 in
theorem rDecode_N (l : List (BitVec 8)) (bv : Value) (w : World) (y : List (BitVec 16)) (e : Int) (hb : BytesV w bv l) (hl : l.length ≤ 140737488355328) (hd : decV rdN okN numB [] l = (y, e)) :
    Calls Try.prog 33 #[bv] w fun r w' => ∃ v, r = .returned (.tuple #[v, .int .i64 e]) ∧ SliceV w' S16 v y ∧ Below w.heap.size w w' := by
  have HD := Lib.hid hd; have BV0 := Lib.hid hb
  clear hd hb
  by_cases h4 : l.length = 4096
  · obtain ⟨g, o, cv, rfl⟩ := BV0.out.shapeAt (by omega)
    have hb4 := BV0.out
    rw [h4] at hb4 ⊢
    replace BV0 := Lib.hid hb4
    clear hb4
    have HL4 := Lib.hid h4
    have ec : (if l.length < 4096 then (4 : Int) else if 4096 < l.length then 5 else 0) = 0 := by rw [if_neg (by omega), if_neg (by omega)]
    have EC := Lib.hid ec
    clear h4 ec
    obtain ⟨g0, hg0⟩ : ∃ v, Wire.getV (cutL l 0 2) = v := ⟨_, rfl⟩
    have hlt0 := get2_lt l 0 (by rw [HL4.out]; omega)
    rw [hg0] at hlt0
    obtain ⟨n, hn⟩ : ∃ n, g0.toNat = n := ⟨_, rfl⟩
    have huv : uv g0 = (n : Int) := by rw [← hn]; rfl
    have hn64 : (n : Int) ≤ 65535 := by omega
    obtain ⟨m, hm⟩ : ∃ m, manyN l = m := ⟨_, rfl⟩
    have hmn : m = min n 2047 := by rw [← hm]; unfold manyN cntN; rw [hg0, BitVec.toNat_setWidth, hn]; omega
    have HG0 := Lib.hid hg0; have HM := Lib.hid hm; have HMN := Lib.hid hmn; have HUV := Lib.hid huv
    clear hg0 hlt0 hn hm hmn huv
    go_enter Try.func33, Try.ntmps33
    go_upto_region 5 with (first
      | (go_at_call 51; go_loud (refine (check_any _ l 0 _ BV0.out EC.out).mono ?_; rintro r w' ⟨rfl, rfl⟩))
      | (go_at_call 56; go_loud (refine (rget_at g o _ cv l 0 2 g0 _ BV0.out (by rw [HL4.out]; decide) (by decide) (by decide) HG0.out).mono ?_; rintro r w' ⟨rfl, rfl⟩; rw [HUV.out])))
    go_wp2
    go_loopw [6, 7] (fun v i wr => ∃ k : Nat, k ≤ m ∧ i = .int .i64 k ∧ wr.ownsRow w.heap.size 22 1 v k (nu16 ((rdN l).take k)) ∧ Below w.heap.size w wr) (fun _ i _ => m - (intOf i).toNat)
    case atStart => exact ⟨0, by omega, rfl, World.ownsRow_nil _ _ _ _, Below.refl _ _⟩
    case round =>
      obtain ⟨k, hk, rfl, ho, hb⟩ := hrel
      have OW := Lib.hid ho; have B := Lib.hid hb; clear ho hb
      by_cases hlt : k < m
      · have d1 : decide ((k : Int) < (n : Int)) = true := decide_eq_true (by have := HMN.out; omega)
        have d2 : decide (k < n) = true := decide_eq_true (by have := HMN.out; omega)
        have d3 : decide ((k : Int) < 2047) = true := decide_eq_true (by have := HMN.out; omega)
        have hk46 : (k : Int) ≤ 2046 := by have := HMN.out; omega
        have HK := Lib.hid (show k ≤ 2046 by have := HMN.out; omega)
        obtain ⟨x, hx⟩ : ∃ x, Wire.getV (cutL l (2 + 2 * k) 2) = x := ⟨_, rfl⟩
        have hnum : numN l k = x.setWidth 16 := by unfold numN; rw [hx]
        have HX := Lib.hid hx; have HNUM := Lib.hid hnum
        have HLT := Lib.hid hlt
        clear hx hnum hlt
        go_wp2_with (first
          | (go_at_call 56; go_loud (rw [show (2 + 2 * (k : Int)) = ((2 + 2 * k : Nat) : Int) by omega]; refine (rget_at g o _ cv l (2 + 2 * k) 2 x _ (BV0.out.below B.out) (by rw [HL4.out]; have := HK.out; omega) (by decide) (by decide) HX.out).mono ?_; rintro r w' ⟨rfl, rfl⟩))
          | (at_builtin; refine app_law ownu16 rfl (.tmp 27) (.tmp 34) rfl w.heap.size _ k (nu16 ((rdN l).take k)) rfl (own_below OW.out (gr_alloc wr _)) (some ⟨wr.heap.size, 0, none⟩) 1 1 [.int .u16 (uv (x.setWidth 16))] rfl (by intro h; cases h) (Nat.le_refl _) (row16_new wr _) rfl (nu16_one [x.setWidth 16]) (by have := HK.out; omega) (by have := HK.out; omega) (Nat.le_trans B.out.size (gr_alloc wr _).size) ?_; intro v3 w3 hown hgrow _; have O3 := Lib.hid (show w3.ownsRow w.heap.size 22 1 v3 (k + 1) (nu16 ((rdN l).take (k + 1))) by (obtain ⟨h1, h2⟩ := List.getElem?_eq_some_iff.1 (rdN_get l k (by rw [HM.out]; exact HLT.out)); rw [List.take_succ_eq_append_getElem h1, h2, HNUM.out]; unfold nu16 at hown ⊢; rw [List.map_append]; exact hown)); have B3 := Lib.hid ((B.out.trans ((gr_alloc wr (.cells #[.int .u16 (uv (x.setWidth 16))] 22)).mono B.out.size)).grown hgrow (Nat.le_trans B.out.size (gr_alloc wr _).size) (fun j hj => (OW.out.lt j hj).1)); clear hown hgrow))
        go_roundw
        case rel => exact ⟨k + 1, by have := HLT.out; omega, by go_num, O3.out, B3.out⟩
        case measure => have := HLT.out; simp [intOf]; omega
      · obtain rfl : k = m := by omega
        have hx := OW.out
        rw [List.take_of_length_le (by rw [rdN_len, HM.out]; omega)] at hx
        have hkl : k = (rdN l).length := by rw [rdN_len]; exact HM.out.symm
        have SV := Lib.hid (own_slice16 (l := rdN l) (by rw [← hkl]; exact hx))
        obtain ⟨x, hxx⟩ : ∃ x, rdN l = x := ⟨_, rfl⟩
        rw [hxx] at SV hkl
        have HX := Lib.hid hxx; have HXL := Lib.hid (show x.length ≤ 1000000 by have := HMN.out; omega)
        obtain ⟨bo, hbo⟩ : ∃ b, okN x = b := ⟨_, rfl⟩
        have HO := Lib.hid hbo
        obtain ⟨bq, hbq⟩ : ∃ b, (numB x == l) = b := ⟨_, rfl⟩
        have HQ := Lib.hid hbq
        have BVR := Lib.hid (BV0.out.below B.out)
        have h3 : ((strOf (numB x)).toList == (strOf l).toList) = bq := by rw [strOf_beq]; exact hbq
        have h4 : ((strOf (numB x)).toList != (strOf l).toList) = !bq := by rw [bne, h3]
        have tst : ∃ b1 b2 : Bool, decide ((k : Int) < (n : Int)) = b1 ∧ decide (k < n) = b1 ∧ decide ((k : Int) < 2047) = b2 ∧ (b1 && b2) = false := by
          refine ⟨decide (k < n), decide ((k : Int) < 2047), ?_, rfl, rfl, ?_⟩
          · by_cases h : k < n
            · rw [decide_eq_true h, decide_eq_true (by omega)]
            · rw [decide_eq_false h, decide_eq_false (by omega)]
          · have := HMN.out
            by_cases h : k < n
            · rw [decide_eq_true h, decide_eq_false (by omega)]; rfl
            · rw [decide_eq_false h]; rfl
        obtain ⟨b1, b2, t1, t2, t3, t4⟩ := tst
        clear hlt hx hkl hxx hbo hbq
        have hs1 := str_at BVR.out
        cases b1
        all_goals (try (cases b2))
        all_goals (first
          | (exact absurd t4 (by decide))
          | (clear t4
             cases bo
             · go_wp2_with (go_at_call 31; go_loud (refine (rEncN_no _ x _ SV.out HXL.out HO.out).mono ?_; rintro r w4 ⟨rfl, hw⟩; have D4 := Lib.hid (gr_tr B.out hw); clear hw))
               go_ret2
               obtain ⟨e1, e2⟩ : y = [] ∧ e = 6 := by
                 have h := HD.out
                 unfold decV at h
                 rw [if_neg (by have := HL4.out; omega), if_neg (by have := HL4.out; omega), HX.out, HO.out] at h
                 simp at h
                 exact ⟨h.1, h.2.symm⟩
               rw [e1, e2]
               exact ⟨_, rfl, SliceV.nil16 _, D4.out⟩
             · cases bq
               · go_wp2_with (go_at_call 31; go_loud (refine (rEncN_ok _ x _ SV.out HXL.out HO.out).mono ?_; rintro r w4 ⟨u, rfl, hu, hw⟩; have D4 := Lib.hid (gr_tr B.out hw); have hs2 := str_at hu; have hs3 := str_at (BVR.out.below hw); clear hw hu))
                 go_ret2
                 obtain ⟨e1, e2⟩ : y = [] ∧ e = 6 := by
                   have h := HD.out
                   unfold decV at h
                   rw [if_neg (by have := HL4.out; omega), if_neg (by have := HL4.out; omega), HX.out, HO.out, HQ.out] at h
                   simp at h
                   exact ⟨h.1, h.2.symm⟩
                 rw [e1, e2]
                 exact ⟨_, rfl, SliceV.nil16 _, D4.out⟩
               · go_wp2_with (go_at_call 31; go_loud (refine (rEncN_ok _ x _ SV.out HXL.out HO.out).mono ?_; rintro r w4 ⟨u, rfl, hu, hw⟩; have D4 := Lib.hid (gr_tr B.out hw); have SV4 := Lib.hid (SV.out.below hw); have hs2 := str_at hu; have hs3 := str_at (BVR.out.below hw); clear hw hu))
                 go_ret2
                 obtain ⟨e1, e2⟩ : y = x ∧ e = 0 := by
                   have h := HD.out
                   unfold decV at h
                   rw [if_neg (by have := HL4.out; omega), if_neg (by have := HL4.out; omega), HX.out, HO.out, HQ.out] at h
                   simp at h
                   exact ⟨h.1.symm, h.2.symm⟩
                 rw [e1, e2]
                 exact ⟨_, rfl, SV4.out, D4.out⟩))
  · by_cases p1 : l.length < 4096
    · have ec : (if l.length < 4096 then (4 : Int) else if 4096 < l.length then 5 else 0) = 4 := by rw [if_pos p1]
      have EC := Lib.hid ec; clear ec
      obtain ⟨e1, e2⟩ : y = [] ∧ e = 4 := by
        have h := HD.out
        unfold decV at h
        rw [if_pos p1] at h
        simp at h
        exact ⟨h.1, h.2.symm⟩
      clear p1 h4
      subst e1 e2
      go_enter Try.func33, Try.ntmps33
      go_wp2_with (go_at_call 51; go_loud (refine (check_any _ l 4 _ BV0.out EC.out).mono ?_; rintro r w' ⟨rfl, rfl⟩))
      go_ret2
      exact ⟨_, rfl, SliceV.nil16 _, Below.refl _ _⟩
    · have ec : (if l.length < 4096 then (4 : Int) else if 4096 < l.length then 5 else 0) = 5 := by rw [if_neg p1, if_pos (by omega)]
      have EC := Lib.hid ec; clear ec
      obtain ⟨e1, e2⟩ : y = [] ∧ e = 5 := by
        have h := HD.out
        unfold decV at h
        rw [if_neg p1, if_pos (by omega)] at h
        simp at h
        exact ⟨h.1, h.2.symm⟩
      clear p1 h4
      subst e1 e2
      go_enter Try.func33, Try.ntmps33
      go_wp2_with (go_at_call 51; go_loud (refine (check_any _ l 5 _ BV0.out EC.out).mono ?_; rintro r w' ⟨rfl, rfl⟩))
      go_ret2
      exact ⟨_, rfl, SliceV.nil16 _, Below.refl _ _⟩
end Go.Proofs.Ytccllneifkeimaa
