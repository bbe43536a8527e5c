/- The walk of capsulelaw17.ProtectErrors. -/
import Derived.Test.YtmccihngbdopdaaLaw17F
import Derived.Test.YtmccihngbdopdaaErrMath
namespace Go.Proofs.Ytmccihngbdopdaa
open Go.RowKit
set_option linter.unusedVariables false
set_option linter.unusedSimpArgs false

theorem pow_shl (t : Nat) : BitVec.ofInt 8 (2 ^ t) = 1#8 <<< t := by
  rw [← mul_pow2]; simp
theorem Generate_5 (ty : Int) (fs : Bool) (v m : Value) (lv lm : List (BitVec 8)) (a : BitVec 16) (n : Int) (k : List (BitVec 8)) (w : World) (hv : BytesV w v lv) (hm : BytesV w m lm) (hs : lv.length + lm.length ≤ 140737488355000) (hn : Prot.wr ty fs false lm.length = n) (hk : Prot.gen ty fs lv lm a 5#32 = k) :
    Calls Try.prog 20 #[.agg #[.int .i64 ty, .bool fs], v, m, .int .u16 (uv a), .int .u32 5] w fun e w' => ∃ u, e = .returned (.tuple #[u, .int .i64 n]) ∧ BytesV w' u k ∧ Below w.heap.size w w' := by
  have h := Generate_at ty fs v m lv lm a 5#32 n k w hv hm hs hn hk
  rw [show uv 5#32 = 5 by decide +kernel] at h
  exact h
theorem Check_g (ty : Int) (fs : Bool) (v mm : Value) (lv lm : List (BitVec 8)) (n c : Int) (w : World) (hv : BytesV w v lv) (hm : BytesV w mm lm) (hs : lv.length + lm.length ≤ 140737488355000) (hn : Prot.wr ty fs false lm.length = n) (hc : Prot.chk ty fs lv lm true false false 0#16 0#16 0#32 = c) :
    Calls Try.prog 25 #[.agg #[.int .i64 ty, .bool fs], v, mm, .agg #[.bool true, .bool false, .bool false, .int .u16 0, .int .u16 0], .int .u32 0] w fun e w' => e = .returned (.tuple #[.agg (Prot.st c), .int .i64 n]) ∧ Below w.heap.size w w' := by
  have h := Check_at ty fs v mm lv lm true false false 0#16 0#16 0#32 n c w hv hm hs hn hc
  rw [show uv 0#16 = 0 by decide +kernel, show uv 0#32 = 0 by decide +kernel] at h
  exact h
set_option maxRecDepth 4000 in
set_option maxHeartbeats 6400000 in
theorem lawErrors (ty : Int) (fs : Bool) (v : Value) (lv : List (BitVec 8)) (m : Value) (lm : List (BitVec 8)) (at_ : Int) (pat a : BitVec 16) (w : World) (_ : -9223372036854775808 ≤ ty ∧ ty ≤ 9223372036854775807) (hv : BytesV w v lv) (hm : BytesV w m lm) (_ : -9223372036854775808 ≤ at_ ∧ at_ ≤ 9223372036854775807) :
    Calls Try.prog 6 #[.agg #[.int .i64 ty, .bool fs], v, m, .int .i64 at_, .int .u16 (uv pat), .int .u16 (uv a)] w fun e w' => e = .returned (.bool true) ∧ Below w.heap.size w w' := by
  obtain ⟨b1, h1⟩ : ∃ z, Prot.valid ty fs = z := ⟨_, rfl⟩
  obtain ⟨b2, h2⟩ : ∃ z, (ty == 0) = z := ⟨_, rfl⟩
  obtain ⟨b3, h3⟩ : ∃ z, decide ((lv.length : Int) < 2) = z := ⟨_, rfl⟩
  obtain ⟨b4, h4⟩ : ∃ z, decide ((lv.length : Int) > 600) = z := ⟨_, rfl⟩
  obtain ⟨b5, h5⟩ : ∃ z, decide ((lm.length : Int) < 8) = z := ⟨_, rfl⟩
  obtain ⟨b6, h6⟩ : ∃ z, decide ((lm.length : Int) > 64) = z := ⟨_, rfl⟩
  obtain ⟨b7, h7⟩ : ∃ z, decide (at_ < 0) = z := ⟨_, rfl⟩
  obtain ⟨b8, h8⟩ : ∃ z, decide (at_ > 8 * (lv.length : Int) - 16) = z := ⟨_, rfl⟩
  obtain ⟨b9, h9⟩ : ∃ z, (uv pat == 0) = z := ⟨_, rfl⟩
  obtain ⟨b10, h10⟩ : ∃ z, (uv a == 65535) = z := ⟨_, rfl⟩
  obtain ⟨bad, hbad⟩ : ∃ z, (!b1 || b2 || b3 || b4 || b5 || b6 || b7 || b8 || b9 || b10) = z := ⟨_, rfl⟩
  have H1 := Lib.hid h1; clear h1
  have H2 := Lib.hid h2; clear h2
  have H3 := Lib.hid h3; clear h3
  have H4 := Lib.hid h4; clear h4
  have H5 := Lib.hid h5; clear h5
  have H6 := Lib.hid h6; clear h6
  have H7 := Lib.hid h7; clear h7
  have H8 := Lib.hid h8; clear h8
  have H9 := Lib.hid h9; clear h9
  have H10 := Lib.hid h10; clear h10
  have HBAD := Lib.hid hbad; clear hbad
  have V := Lib.hid hv; clear hv
  have M := Lib.hid hm; clear hm
  obtain ⟨av, cv, rfl, -⟩ := id V.out
  obtain ⟨am, cm, rfl, -⟩ := id M.out
  obtain ⟨W, hW⟩ : ∃ W, W = (w.alloc (.cells #[.int .i64 ty, .bool fs] 28)) := ⟨_, rfl⟩
  have hb1 : Below w.heap.size w W := by subst hW; exact gr_alloc _ _
  have d0 : W.cell? ⟨w.heap.size, 0, none⟩ = some (.int .i64 ty) := by subst hW; simp [go_sem]
  have d1 : W.cell? ⟨w.heap.size, 1, none⟩ = some (.bool fs) := by subst hW; simp [go_sem]
  replace V := Lib.hid (V.out.below hb1); replace M := Lib.hid (M.out.below hb1)
  have B := Lib.hid hb1; clear hb1
  have HW := Lib.hid hW; clear hW
  go_enter Try.func6, Try.ntmps6
  go_upto_region 1 with fail
  rw [← HW.out]
  go_cut [68] (fun s wx => s = .bool bad ∧ Below W.heap.size W wx)
  case first =>
    have h1 := H1.out
    cases b1
    · obtain rfl : bad = true := by rw [← HBAD.out]; simp
      go_wp2_with (go_at_call 17; refine (rValid_at _ _ _ _ H1.out).mono ?_; rintro e w1 ⟨rfl, hw⟩; replace d0 := below_get hw d0; have C1 := Lib.hid hw; clear hw)
      go_meet
      exact ⟨rfl, C1.out⟩
    · have h2 := H2.out
      cases b2
      · have h3 := H3.out
        cases b3
        · have h4 := H4.out
          cases b4
          · have h5 := H5.out
            cases b5
            · have h6 := H6.out
              cases b6
              · have h7 := H7.out
                cases b7
                · have h8 := H8.out
                  have l4 : lv.length ≤ 600 := by have := H4.out; simp at this; omega
                  cases b8
                  · have h9 := H9.out
                    cases b9
                    · have h10 := H10.out
                      cases b10
                      · obtain rfl : bad = false := by rw [← HBAD.out]; simp
                        go_wp2_with (go_at_call 17; refine (rValid_at _ _ _ _ H1.out).mono ?_; rintro e w1 ⟨rfl, hw⟩; replace d0 := below_get hw d0; have C1 := Lib.hid hw; clear hw)
                        go_meet
                        exact ⟨rfl, C1.out⟩
                      · obtain rfl : bad = true := by rw [← HBAD.out]; simp
                        go_wp2_with (go_at_call 17; refine (rValid_at _ _ _ _ H1.out).mono ?_; rintro e w1 ⟨rfl, hw⟩; replace d0 := below_get hw d0; have C1 := Lib.hid hw; clear hw)
                        go_meet
                        exact ⟨rfl, C1.out⟩
                    · obtain rfl : bad = true := by rw [← HBAD.out]; simp
                      go_wp2_with (go_at_call 17; refine (rValid_at _ _ _ _ H1.out).mono ?_; rintro e w1 ⟨rfl, hw⟩; replace d0 := below_get hw d0; have C1 := Lib.hid hw; clear hw)
                      go_meet
                      exact ⟨rfl, C1.out⟩
                  · obtain rfl : bad = true := by rw [← HBAD.out]; simp
                    go_wp2_with (go_at_call 17; refine (rValid_at _ _ _ _ H1.out).mono ?_; rintro e w1 ⟨rfl, hw⟩; replace d0 := below_get hw d0; have C1 := Lib.hid hw; clear hw)
                    go_meet
                    exact ⟨rfl, C1.out⟩
                · obtain rfl : bad = true := by rw [← HBAD.out]; simp
                  go_wp2_with (go_at_call 17; refine (rValid_at _ _ _ _ H1.out).mono ?_; rintro e w1 ⟨rfl, hw⟩; replace d0 := below_get hw d0; have C1 := Lib.hid hw; clear hw)
                  go_meet
                  exact ⟨rfl, C1.out⟩
              · obtain rfl : bad = true := by rw [← HBAD.out]; simp
                go_wp2_with (go_at_call 17; refine (rValid_at _ _ _ _ H1.out).mono ?_; rintro e w1 ⟨rfl, hw⟩; replace d0 := below_get hw d0; have C1 := Lib.hid hw; clear hw)
                go_meet
                exact ⟨rfl, C1.out⟩
            · obtain rfl : bad = true := by rw [← HBAD.out]; simp
              go_wp2_with (go_at_call 17; refine (rValid_at _ _ _ _ H1.out).mono ?_; rintro e w1 ⟨rfl, hw⟩; replace d0 := below_get hw d0; have C1 := Lib.hid hw; clear hw)
              go_meet
              exact ⟨rfl, C1.out⟩
          · obtain rfl : bad = true := by rw [← HBAD.out]; simp
            go_wp2_with (go_at_call 17; refine (rValid_at _ _ _ _ H1.out).mono ?_; rintro e w1 ⟨rfl, hw⟩; replace d0 := below_get hw d0; have C1 := Lib.hid hw; clear hw)
            go_meet
            exact ⟨rfl, C1.out⟩
        · obtain rfl : bad = true := by rw [← HBAD.out]; simp
          go_wp2_with (go_at_call 17; refine (rValid_at _ _ _ _ H1.out).mono ?_; rintro e w1 ⟨rfl, hw⟩; replace d0 := below_get hw d0; have C1 := Lib.hid hw; clear hw)
          go_meet
          exact ⟨rfl, C1.out⟩
      · obtain rfl : bad = true := by rw [← HBAD.out]; simp
        go_wp2_with (go_at_call 17; refine (rValid_at _ _ _ _ H1.out).mono ?_; rintro e w1 ⟨rfl, hw⟩; replace d0 := below_get hw d0; have C1 := Lib.hid hw; clear hw)
        go_meet
        exact ⟨rfl, C1.out⟩
  case rest =>
    obtain ⟨rfl, hw⟩ := hcut
    obtain ⟨w1, hx⟩ : ∃ x, x = wc := ⟨_, rfl⟩
    subst hx
    cases bad
    · have hall : b1 = true ∧ b2 = false ∧ b3 = false ∧ b4 = false ∧ b5 = false ∧ b6 = false ∧ b7 = false ∧ b8 = false ∧ b9 = false ∧ b10 = false := by
        have := HBAD.out
        simp only [Bool.or_eq_false_iff, Bool.not_eq_false'] at this
        obtain ⟨⟨⟨⟨⟨⟨⟨⟨⟨a1, a2⟩, a3⟩, a4⟩, a5⟩, a6⟩, a7⟩, a8⟩, a9⟩, a10⟩ := this
        exact ⟨a1, a2, a3, a4, a5, a6, a7, a8, a9, a10⟩
      obtain ⟨rfl, rfl, rfl, rfl, rfl, rfl, rfl, rfl, rfl, rfl⟩ := hall
      have h0 : ty ≠ 0 := by have := H2.out; intro e; subst e; simp at this
      have l3 : 2 ≤ lv.length := by have := H3.out; simp at this; omega
      have l4 : lv.length ≤ 600 := by have := H4.out; simp at this; omega
      have l5 : 8 ≤ lm.length := by have := H5.out; simp at this; omega
      have l6 : lm.length ≤ 64 := by have := H6.out; simp at this; omega
      have l7 : 0 ≤ at_ := by have := H7.out; simp at this; omega
      obtain ⟨f, rfl⟩ := Int.eq_ofNat_of_zero_le l7
      have l8 : f + 16 ≤ 8 * lv.length := by have := H8.out; simp at this; omega
      have hpat : pat ≠ 0#16 := by have := H9.out; intro e; subst e; revert this; decide
      have ha : a ≠ 65535#16 := by have := H10.out; intro e; subst e; revert this; decide
      have hwr : Prot.wr ty fs false lm.length = 0 := wr_zero H1.out H2.out l5
      obtain ⟨lN, hlN⟩ : ∃ z, Prot.gen ty fs lv lm a 5#32 = z := ⟨_, rfl⟩
      have hput := hlN; rw [Prot.gen_put hwr h0] at hput
      have hb8 := Prot.bytes_len (Prot.guard ty fs lv lm) a 5#32
      have hlenN : lN.length = lm.length := by rw [← hput]; exact Prot.put_len hb8 l5
      have hwrN : Prot.wr ty fs false lN.length = 0 := by rw [hlenN]; exact hwr
      have hc0 : Prot.chk ty fs lv lN true false false 0#16 0#16 0#32 = 0 := by rw [← hput, Prot.chk_put hwr h0 l5 lv lv a 5#32 ha, if_pos rfl]
      have hc1 : Prot.chk ty fs (Dig.xfl pat f lv 16) lN true false false 0#16 0#16 0#32 = 130 := by
        rw [← hput, Prot.chk_put hwr h0 l5 lv _ a 5#32 ha, if_neg]
        unfold Prot.guard
        rw [if_neg h0, if_neg h0]
        exact fun e => Dig.xfl_crc pat f lv _ l8 hpat e.symm
      have s1 : lv.length + lm.length ≤ 140737488355000 := by omega
      have s2 : lv.length ≤ 140737488355328 := by omega
      have s3 : lv.length + lN.length ≤ 140737488355000 := by omega
      have s4 : (Dig.xfl pat f lv 16).length + lN.length ≤ 140737488355000 := by rw [Dig.xfl_len]; omega
      have hpos : 0 < lv.length := by omega
      clear h0 l5 l6 l7 hpat ha hput hb8 hlenN
      have HWR := Lib.hid hwr; clear hwr
      have HLN := Lib.hid hlN; clear hlN
      have HWRN := Lib.hid hwrN; clear hwrN
      have HC0 := Lib.hid hc0; clear hc0
      have HC1 := Lib.hid hc1; clear hc1
      have S1 := Lib.hid s1; clear s1
      have S2 := Lib.hid s2; clear s2
      have S3 := Lib.hid s3; clear s3
      have S4 := Lib.hid s4; clear s4
      have HPOS := Lib.hid hpos; clear hpos
      replace d0 := below_get hw d0; replace d1 := below_get hw d1; replace V := Lib.hid (V.out.below hw); replace M := Lib.hid (M.out.below hw); replace B := Lib.hid (gr_tr B.out hw); clear hw
      go_upto_region 5 with (first
        | (go_at_call 20; (with_reducible refine (Generate_5 _ _ _ _ _ _ _ _ lN _ V.out M.out S1.out HWR.out HLN.out).mono ?_); rintro e w2 ⟨nn, rfl, hu, hw⟩; replace d0 := below_get hw d0; replace d1 := below_get hw d1; replace V := Lib.hid (V.out.below hw); replace M := Lib.hid (M.out.below hw); replace B := Lib.hid (gr_tr B.out hw); have N := Lib.hid hu; clear hu; clear hw)
        | (at_builtin; refine app_fresh rfl (.tmp 78) (.tmp 79) rfl _ rfl rfl _ lv rfl V.out S2.out ?_; intro x w3 hx hw; obtain ⟨gx, cx, rfl, hgx, hgx2, -⟩ := own_from hx 0 HPOS.out; have X := Lib.hid hx; have C3 := Lib.hid hw; clear hx hw))
      have HGX := Lib.hid hgx; clear hgx hgx2
      go_wp2_with fail
      go_loopw [16] (fun i wr => ∃ j : Nat, j ≤ 16 ∧ i = .int .i64 j ∧ wr.ownsRow w2.heap.size 5 1 (.slice (some ⟨gx, 0, none⟩) lv.length cx) lv.length (by8 (Dig.xfl pat f lv j)) ∧ Below w2.heap.size w2 wr) (fun i _ => 16 - (intOf i).toNat)
      case atStart => exact ⟨0, by omega, rfl, X.out, C3.out⟩
      case round =>
        obtain ⟨j, hj, rfl, hx, hb⟩ := hrel
        have XJ := Lib.hid hx; clear hx
        have CJ := Lib.hid hb; clear hb
        by_cases hlt : j < 16
        · obtain ⟨s, hs⟩ : ∃ s : Nat, s = 15 - j := ⟨_, rfl⟩
          have h15 : (15 : Int) - (j : Int) = (s : Int) := by omega
          have HS := Lib.hid hs; clear hs
          by_cases hbit : pat.getLsbD s = true
          · have hz := Dig.bit_one16 pat s hbit
            obtain ⟨t, ht⟩ : ∃ t : Nat, t = 7 - (f + j) % 8 := ⟨_, rfl⟩
            have h7 : (7 : Int) - ((f : Int) + (j : Int)) % 8 = (t : Int) := by omega
            obtain ⟨x, hx⟩ : ∃ x, (Dig.xfl pat f lv j)[(f + j) / 8]? = some x := ⟨_, List.getElem?_eq_getElem (by rw [Dig.xfl_len]; omega)⟩
            have cx1 : wr.cell? ⟨gx, (f + j) / 8, none⟩ = some (.int .u8 (uv x)) := by rw [XJ.out.cellAt _ (by omega), by8_get, hx]; rfl
            have fx1 := XJ.out.frozenAt ((f + j) / 8)
            have FX := Lib.hid (Dig.by8_xflip _ _ _ hx)
            have hq : ((f : Int) + (j : Int)) / 8 < (lv.length : Int) := by omega
            have HT := Lib.hid ht; clear ht hx
            have HBIT := Lib.hid hbit; clear hbit
            have hfj : (f : Int) + (j : Int) ≤ 100000 := by omega
            go_wp2
            go_region
            all_goals (go_wp2; go_roundw)
            case rel => exact ⟨j + 1, by omega, by go_num, by
                unfold Dig.xfl
                rw [← HS.out, if_pos HBIT.out, ← FX.out, ← HT.out, ← pow_shl]
                exact (XJ.out.stored _ _).1.drew, (CJ.out.setCell (p := ⟨gx, (f + j) / 8, none⟩) HGX.out _).drew⟩
            case measure => simp [intOf]; omega
          · have hz := Dig.bit_zero16 pat s (by simpa using hbit)
            have HBIT := Lib.hid hbit; clear hbit
            go_wp2
            go_roundw
            case rel => exact ⟨j + 1, by omega, by go_num, by
                unfold Dig.xfl
                rw [← HS.out, if_neg HBIT.out]
                exact XJ.out, CJ.out⟩
            case measure => simp [intOf]; omega
        · obtain rfl : j = 16 := by omega
          have Y := Lib.hid (BytesV.of_own (l := Dig.xfl pat f lv 16) (by rw [Dig.xfl_len]; exact XJ.out))
          obtain ⟨ly, hly⟩ : ∃ z, Dig.xfl pat f lv 16 = z := ⟨_, rfl⟩
          have hc1 := HC1.out; have s4 := S4.out
          rw [hly] at Y hc1 s4
          have HC1' := Lib.hid hc1; have S4' := Lib.hid s4
          clear hly hc1 s4 HC1 S4 XJ
          have hw := CJ.out
          replace d0 := below_get hw d0; replace d1 := below_get hw d1; replace V := Lib.hid (V.out.below hw); replace N := Lib.hid (N.out.below hw); replace B := Lib.hid (gr_tr B.out hw); clear hw
          go_upto_region 11 with (first
            | (go_at_call 25; (with_reducible refine (Check_g _ _ _ _ _ _ _ 0 _ V.out N.out S3.out HWRN.out HC0.out).mono ?_); rintro e w4 ⟨rfl, hw⟩; replace d0 := below_get hw d0; replace d1 := below_get hw d1; replace N := Lib.hid (N.out.below hw); replace Y := Lib.hid (Y.out.below hw); replace B := Lib.hid (gr_tr B.out hw); clear hw)
            | (refine wpList_store_new rfl 55 (.tmp 17) _ rfl (Prot.st 0) 55 #[.int .u8 0, .int .u8 0, .bool false, .bool false] rfl rfl (st_info 0) (st_size 0).symm (st_one 0) ?_; intro w5 hr hw; have R1 := Lib.hid hr; replace d0 := below_get hw d0; replace d1 := below_get hw d1; replace N := Lib.hid (N.out.below hw); replace Y := Lib.hid (Y.out.below hw); replace B := Lib.hid (gr_tr B.out hw); clear hr hw))
          go_upto_region 12 with (first
            | (go_at_call 25; (with_reducible refine (Check_g _ _ _ _ _ _ _ 130 _ Y.out N.out S4'.out HWRN.out HC1'.out).mono ?_); rintro e w6 ⟨rfl, hw⟩; replace d0 := below_get hw d0; replace d1 := below_get hw d1; replace R1 := Lib.hid (blk_below R1.out hw); replace B := Lib.hid (gr_tr B.out hw); clear hw)
            | (refine wpList_store_new rfl 55 (.tmp 19) _ rfl (Prot.st 130) 55 #[.int .u8 0, .int .u8 0, .bool false, .bool false] rfl rfl (st_info 130) (st_size 130).symm (st_one 130) ?_; intro w7 hr hw; have R2 := Lib.hid hr; replace d0 := below_get hw d0; replace d1 := below_get hw d1; replace R1 := Lib.hid (blk_below R1.out hw); replace B := Lib.hid (gr_tr B.out hw); clear hr hw))
          go_wp2_with (first
            | (refine wpList_unguard (by rfl) (wpList_load_row rfl 55 (.tmp 17) rfl w4.heap.size rfl 55 (Prot.st 0) (0, 0) _ R1.out Try.underlying55 rfl (st_info 0) ?_))
            | (refine wpList_unguard (by rfl) (wpList_load_row rfl 55 (.tmp 19) rfl w6.heap.size rfl 55 (Prot.st 130) (0, 0) _ R2.out Try.underlying55 rfl (st_info 130) ?_))
            | (go_at_call 29; (with_reducible refine (code_any 0 (.inl rfl) _).mono ?_); rintro e w8 ⟨rfl, hw⟩; replace R2 := Lib.hid (blk_below R2.out hw); replace B := Lib.hid (gr_tr B.out hw); clear hw)
            | (go_at_call 29; (with_reducible refine (code_any 130 (.inr (.inl rfl)) _).mono ?_); rintro e w9 ⟨rfl, hw⟩; replace B := Lib.hid (gr_tr B.out hw); clear hw)
            | (go_at_call 18; refine (num_any _ _).mono ?_; rintro e w' ⟨rfl, rfl⟩)
            | (go_at_call 19; refine (works_any _).mono ?_; rintro e w14 ⟨rfl, hw⟩; replace B := Lib.hid (gr_tr B.out hw); clear hw))
          go_ret
          exact ⟨rfl, B.out⟩
    · replace B := Lib.hid (gr_tr B.out hw); clear hw
      go_wp2_with (go_at_call 19; refine (works_any _).mono ?_; rintro e w14 ⟨rfl, hw⟩; replace B := Lib.hid (gr_tr B.out hw); clear hw)
      go_ret
      exact ⟨rfl, B.out⟩
end Go.Proofs.Ytmccihngbdopdaa
