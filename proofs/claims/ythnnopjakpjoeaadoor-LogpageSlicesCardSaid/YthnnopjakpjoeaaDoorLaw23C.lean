/- The law LogpageSlices: the walk. -/
import Derived.Test.YthnnopjakpjoeaaDoorLaw23B
import Derived.Test.YthnnopjakpjoeaaDoorLogT
namespace Go.Proofs.YthnnopjakpjoeaaDoor
open Go.RowKit Lg
set_option linter.unusedVariables false
set_option linter.unusedSimpArgs false
namespace Lg
theorem outK_app (l : List (BitVec 8)) (o a b : Nat) : outK l o (a + b) = outK l o a ++ outK l (o + a) b := by
  apply List.ext_getElem?
  intro i
  unfold outK
  rw [List.getElem?_map]
  by_cases h1 : i < a
  · rw [List.getElem?_append_left (by simp; exact h1), List.getElem?_map, List.getElem?_range h1, List.getElem?_range (by omega)]
  · rw [List.getElem?_append_right (by simp; omega), List.length_map, List.length_range, List.getElem?_map]
    by_cases h2 : i < a + b
    · rw [List.getElem?_range h2, List.getElem?_range (by omega)]
      simp only [Option.map_some]
      rw [show o + a + (i - a) = o + i by omega]
    · rw [List.getElem?_eq_none (by simp; omega), List.getElem?_eq_none (by simp; omega)]; rfl
theorem slOk_iff {l : List (BitVec 8)} {o : BitVec 64} {d : BitVec 32} : slOk l o d = true ↔ o.toNat % 4 = 0 ∧ o.toNat ≤ l.length ∧ 1 ≤ d.toNat ∧ d.toNat ≤ 65536 := by
  unfold slOk; simp only [Bool.and_eq_true, decide_eq_true_eq]
/-- Two parts behind each other are a part. -/
theorem sl_two {l : List (BitVec 8)} {o : BitVec 64} {a b : BitVec 32} (hl : l.length ≤ 200) (ha : a.toNat ≤ 100) (hb : b.toNat ≤ 100) (h1 : slOk l o a = true) (h2 : slOk l (o + 4#64 * a.setWidth 64) b = true) :
    slOk l o (a + b) = true ∧ slR l o (a + b) = slR l o a ++ slR l (o + 4#64 * a.setWidth 64) b := by
  have e1 := slOk_iff.1 h1
  have e2 := slOk_iff.1 h2
  have ho : (o + 4#64 * a.setWidth 64).toNat = o.toNat + 4 * a.toNat := by
    rw [BitVec.toNat_add, BitVec.toNat_mul, BitVec.toNat_setWidth]
    have : (4#64).toNat = 4 := rfl
    rw [this]; omega
  have hs : (a + b).toNat = a.toNat + b.toNat := by rw [BitVec.toNat_add]; omega
  have h3 : slOk l o (a + b) = true := slOk_iff.2 ⟨e1.1, e1.2.1, by omega, by omega⟩
  refine ⟨h3, ?_⟩
  unfold slR
  rw [if_pos h1, if_pos h2, if_pos h3, ← outK_slB l o _ e1.2.1, ← outK_slB l o _ e1.2.1, ← outK_slB l _ _ e2.2.1, hs, ho, show 4 * (a.toNat + b.toNat) = 4 * a.toNat + 4 * b.toNat by omega, outK_app]
end Lg
theorem slR_len {l : List (BitVec 8)} {o : BitVec 64} {d : BitVec 32} (hd : d.toNat ≤ 100 ∨ ¬ d.toNat ≤ 65536) : (slR l o d).length ≤ 400 := by
  unfold slR
  split
  · rename_i h
    have := slOk_iff.1 h
    rw [← outK_slB l o d this.2.1, outK_len]; omega
  · simp
theorem stC_one (b : Bool) : (stC b).all (·.oneCell') = true := by cases b <;> simp [stC, Value.oneCell']
theorem byt_lt {w : World} {v : Value} {l : List (BitVec 8)} (h : BytesV w v l) (hl : 0 < l.length) : ∀ g o n c, v = .slice (some ⟨g, o, none⟩) n c → g < w.heap.size := by
  intro g o n c e
  obtain ⟨a, c', e2, -, -, -, hr⟩ := h
  rw [e] at e2
  injection e2 with e3 e4 e5
  subst e3
  exact hr.lt (by intro hn; have h9 := congrArg List.length hn; rw [by8_length, List.length_nil] at h9; omega)
set_option maxHeartbeats 6400000 in
set_option maxRecDepth 20000 in
theorem lawSlices (v : Value) (l : List (BitVec 8)) (o : BitVec 64) (a b : BitVec 32) (w : World) (hv : BytesV w v l) (ht : Lib.TabIs Tryd.prog w "strings.asciiSpace" .u8 Lib.asciiSpaceTab) :
    Calls Tryd.prog 3 #[v, .int .u64 (uv o), .int .u32 (uv a), .int .u32 (uv b)] w fun e w' => e = .returned (.bool true) ∧ Below w.heap.size w w' := by
  have V := Lib.hid hv; have TAB := Lib.hid ht
  obtain ⟨av, cv, rfl, h0, h1, h2, h3⟩ := hv
  have hm : (l.length : Int) ≤ 9223372036854775807 := by omega
  have ha : uv a = a.toNat := rfl
  have hb : uv b = b.toNat := rfl
  clear h0 h1 h2 h3 ht
  by_cases c1 : 200 < l.length
  · have d1 : decide ((200 : Int) < l.length) = true := decide_eq_true (by omega)
    have d2 : decide (200 < l.length) = true := decide_eq_true c1
    clear c1 ha hb
    go_enter Tryd.func3, Tryd.ntmps3
    go_wp2_with (go_at_call 13; go_loud (refine (known_any _ TAB.out).mono ?_; rintro r w1 ⟨rfl, hw⟩; have D := Lib.hid hw; clear hw))
    go_ret
    exact ⟨rfl, D.out⟩
  have d1 : decide ((200 : Int) < l.length) = false := decide_eq_false (by omega)
  have d2 : decide (200 < l.length) = false := decide_eq_false c1
  by_cases c2 : 100 < a.toNat ∧ a.toNat ≤ 65536
  · have d3 : decide (100 < uv a) = true := decide_eq_true (by omega)
    have d4 : decide (uv a ≤ 65536) = true := decide_eq_true (by omega)
    clear c1 c2 ha hb
    go_enter Tryd.func3, Tryd.ntmps3
    go_wp2_with (go_at_call 13; go_loud (refine (known_any _ TAB.out).mono ?_; rintro r w1 ⟨rfl, hw⟩; have D := Lib.hid hw; clear hw))
    go_ret
    exact ⟨rfl, D.out⟩
  by_cases c3 : 100 < b.toNat
  · have d5 : decide (100 < uv b) = true := decide_eq_true (by omega)
    by_cases c4 : 100 < a.toNat
    · have d3 : decide (100 < uv a) = true := decide_eq_true (by omega)
      have d4 : decide (uv a ≤ 65536) = false := decide_eq_false (by omega)
      clear c1 c2 c3 c4 ha hb
      go_enter Tryd.func3, Tryd.ntmps3
      go_wp2_with (go_at_call 13; go_loud (refine (known_any _ TAB.out).mono ?_; rintro r w1 ⟨rfl, hw⟩; have D := Lib.hid hw; clear hw))
      go_ret
      exact ⟨rfl, D.out⟩
    · have d3 : decide (100 < uv a) = false := decide_eq_false (by omega)
      clear c1 c2 c3 c4 ha hb
      go_enter Tryd.func3, Tryd.ntmps3
      go_wp2_with (go_at_call 13; go_loud (refine (known_any _ TAB.out).mono ?_; rintro r w1 ⟨rfl, hw⟩; have D := Lib.hid hw; clear hw))
      go_ret
      exact ⟨rfl, D.out⟩
  have d5 : decide (100 < uv b) = false := decide_eq_false (by omega)
  have HL := Lib.hid (show l.length ≤ 200 by omega)
  have HA := Lib.hid (show a.toNat ≤ 100 ∨ ¬ a.toNat ≤ 65536 by omega)
  have HBB := Lib.hid (show b.toNat ≤ 100 by omega)
  obtain ⟨b1, hb1⟩ : ∃ b1, slOk l o a = b1 := ⟨_, rfl⟩
  obtain ⟨A, hA⟩ : ∃ A, slR l o a = A := ⟨_, rfl⟩
  have HB1 := Lib.hid hb1; have HAA := Lib.hid hA
  have AL := Lib.hid (show A.length ≤ 400 by rw [← hA]; exact slR_len HA.out)
  clear hA hb1 ha hb
  have CUT : ∃ d3 : Bool, decide (100 < uv a) = d3 := ⟨_, rfl⟩
  by_cases c4 : 100 < a.toNat
  · have d3 : decide (100 < uv a) = true := decide_eq_true (by have : uv a = a.toNat := rfl; omega)
    have d4 : decide (uv a ≤ 65536) = false := decide_eq_false (by have : uv a = a.toNat := rfl; omega)
    have hf : b1 = false := by
      have := HB1.out
      cases hb : b1
      · rfl
      · rw [hb] at this; have := slOk_iff.1 this; omega
    subst hf
    clear c1 c2 c3 c4 CUT
    have st0 : stC false = #[.int .u8 0, .int .u8 2, .bool false, .bool false] := rfl
    have q := fun w => st_eql false false w
    rw [st0] at q
    have hz : A = [] := by have := HAA.out; unfold slR at this; rw [HB1.out] at this; simpa using this.symm
    subst hz
    go_enter Tryd.func3, Tryd.ntmps3
    go_upto_region 4 with (first
      | (go_at_call 14; go_loud (refine (Slice_at _ l o a false [] _ V.out HB1.out HAA.out).mono ?_; rw [st0]; rintro r w1 ⟨u, rfl, hu, hw⟩; obtain ⟨au, nu, cu, rfl⟩ := bytes_shape hu; have U := Lib.hid hu; have D := Lib.hid hw; clear hu hw))
      | (refine wpList_store_new rfl 27 (.tmp 10) (.tmp 39) rfl #[.int .u8 0, .int .u8 2, .bool false, .bool false] 27 _ rfl rfl (by kernel_rfl) rfl (by simp [Value.oneCell']) ?_; intro w2 hh hw; have S2 := Lib.hid hh; replace U := Lib.hid (U.out.below hw); replace D := Lib.hid (gr_tr D.out hw); clear hh hw))
    have hnu : nu = 0 := by obtain ⟨_, _, e, _⟩ := U.out; injection e
    subst hnu
    go_wp2_with (first
      | (go_at_call 15; go_loud (refine (rSlice_at _ l o a false [] _ (V.out.below D.out) (by have := HL.out; omega) HB1.out HAA.out).mono ?_; rintro r w3 ⟨u2, rfl, hu, hw⟩; replace S2 := Lib.hid (blk_below S2.out hw); replace D := Lib.hid (gr_tr D.out hw); clear hu hw))
      | (refine wpList_unguard (by rfl) (wpList_load_row rfl 27 (.tmp 10) rfl w1.heap.size rfl 27 #[.int .u8 0, .int .u8 2, .bool false, .bool false] (0, 0) _ S2.out Tryd.underlying27 rfl (by kernel_rfl) ?_))
      | (go_at_call 13; go_loud (refine (known_any _ (tab_below TAB.out D.out)).mono ?_; rintro r w4 ⟨rfl, hw⟩; replace D := Lib.hid (gr_tr D.out hw); clear hw)))
    go_ret
    exact ⟨rfl, D.out⟩
  have d3 : decide (100 < uv a) = false := decide_eq_false (by have : uv a = a.toNat := rfl; omega)
  have HA1 := Lib.hid (show a.toNat ≤ 100 by omega)
  clear c1 c2 c3 c4 CUT
  cases b1
  · skip
    have st0 : stC false = #[.int .u8 0, .int .u8 2, .bool false, .bool false] := rfl
    have q := fun w => st_eql false false w
    rw [st0] at q
    have hz : A = [] := by have := HAA.out; unfold slR at this; rw [HB1.out] at this; simpa using this.symm
    subst hz
    go_enter Tryd.func3, Tryd.ntmps3
    go_upto_region 4 with (first
      | (go_at_call 14; go_loud (refine (Slice_at _ l o a false [] _ V.out HB1.out HAA.out).mono ?_; rw [st0]; rintro r w1 ⟨u, rfl, hu, hw⟩; obtain ⟨au, nu, cu, rfl⟩ := bytes_shape hu; have U := Lib.hid hu; have D := Lib.hid hw; clear hu hw))
      | (refine wpList_store_new rfl 27 (.tmp 10) (.tmp 39) rfl #[.int .u8 0, .int .u8 2, .bool false, .bool false] 27 _ rfl rfl (by kernel_rfl) rfl (by simp [Value.oneCell']) ?_; intro w2 hh hw; have S2 := Lib.hid hh; replace U := Lib.hid (U.out.below hw); replace D := Lib.hid (gr_tr D.out hw); clear hh hw))
    have hnu : nu = 0 := by obtain ⟨_, _, e, _⟩ := U.out; injection e
    subst hnu
    go_wp2_with (first
      | (go_at_call 15; go_loud (refine (rSlice_at _ l o a false [] _ (V.out.below D.out) (by have := HL.out; omega) HB1.out HAA.out).mono ?_; rintro r w3 ⟨u2, rfl, hu, hw⟩; replace S2 := Lib.hid (blk_below S2.out hw); replace D := Lib.hid (gr_tr D.out hw); clear hu hw))
      | (refine wpList_unguard (by rfl) (wpList_load_row rfl 27 (.tmp 10) rfl w1.heap.size rfl 27 #[.int .u8 0, .int .u8 2, .bool false, .bool false] (0, 0) _ S2.out Tryd.underlying27 rfl (by kernel_rfl) ?_))
      | (go_at_call 13; go_loud (refine (known_any _ (tab_below TAB.out D.out)).mono ?_; rintro r w4 ⟨rfl, hw⟩; replace D := Lib.hid (gr_tr D.out hw); clear hw)))
    go_ret
    exact ⟨rfl, D.out⟩
  have h11 : (A == A) = true := beq_self_eq_true A
  have st0 : stC true = #[.int .u8 0, .int .u8 0, .bool false, .bool false] := rfl
  go_enter Tryd.func3, Tryd.ntmps3
  go_upto_region 4 with (first
    | (go_at_call 14; go_loud (refine (Slice_at _ l o a true A _ V.out HB1.out HAA.out).mono ?_; rw [st0]; rintro r w1 ⟨u, rfl, hu, hw⟩; have U := Lib.hid hu; have D := Lib.hid hw; clear hu hw))
    | (refine wpList_store_new rfl 27 (.tmp 10) (.tmp 39) rfl #[.int .u8 0, .int .u8 0, .bool false, .bool false] 27 _ rfl rfl (by kernel_rfl) rfl (by simp [Value.oneCell']) ?_; intro w2 hh hw; have S2 := Lib.hid hh; replace U := Lib.hid (U.out.below hw); replace D := Lib.hid (gr_tr D.out hw); clear hh hw))
  clear d1 d2 d3 d5
  go_upto_region 9 with (first
    | (go_at_call 15; go_loud (refine (rSlice_at _ l o a true A _ (V.out.below D.out) (by have := HL.out; omega) HB1.out HAA.out).mono ?_; rintro r w3 ⟨u2, rfl, hu, hw⟩; have U2 := Lib.hid hu; replace U := Lib.hid (U.out.below hw); replace S2 := Lib.hid (blk_below S2.out hw); replace D := Lib.hid (gr_tr D.out hw); clear hu hw))
    | (refine wpList_load_row rfl 27 (.tmp 10) rfl w1.heap.size rfl 27 #[.int .u8 0, .int .u8 0, .bool false, .bool false] (0, 0) _ S2.out Tryd.underlying27 rfl (by kernel_rfl) ?_)
    | (go_at_call 16; go_loud (refine (good_any true _).mono ?_; rintro r w4 ⟨rfl, hw⟩; replace U := Lib.hid (U.out.below hw); replace U2 := Lib.hid (U2.out.below hw); replace D := Lib.hid (gr_tr D.out hw); clear hw))
    | (go_at_call 17; go_loud (refine (same_at _ _ A A true _ U.out U2.out h11).mono ?_; rintro r w5 ⟨rfl, hw5⟩; subst hw5)))
  obtain ⟨b2, hb2⟩ : ∃ b2, slOk l (o + 4#64 * a.setWidth 64) b = b2 := ⟨_, rfl⟩
  obtain ⟨B2, hB2⟩ : ∃ B, slR l (o + 4#64 * a.setWidth 64) b = B := ⟨_, rfl⟩
  obtain ⟨b3, hb3⟩ : ∃ b3, slOk l o (a + b) = b3 := ⟨_, rfl⟩
  obtain ⟨B3, hB3⟩ : ∃ B, slR l o (a + b) = B := ⟨_, rfl⟩
  have HB2 := Lib.hid hb2; have HBR2 := Lib.hid hB2; have HB3 := Lib.hid hb3; have HBR3 := Lib.hid hB3
  have BL2 := Lib.hid (show B2.length ≤ 400 by rw [← hB2]; exact slR_len (.inl HBB.out))
  clear hb2 hB2 hb3 hB3
  go_upto_region 11 with (first
    | (go_at_call 14; go_loud ((with_reducible refine (Slice_at _ l (o + 4#64 * a.setWidth 64) b b2 B2 _ (V.out.below D.out) HB2.out HBR2.out).mono ?_); rintro r w6 ⟨u3, rfl, hu, hw⟩; have U3 := Lib.hid hu; replace U := Lib.hid (U.out.below hw); replace D := Lib.hid (gr_tr D.out hw); clear hu hw))
    | (refine wpList_store_new rfl 27 (.tmp 14) (.tmp 79) rfl (stC b2) 27 _ rfl rfl (by cases b2 <;> kernel_rfl) (by cases b2 <;> rfl) (stC_one b2) ?_; intro w7 hh hw; have S7 := Lib.hid hh; replace U := Lib.hid (U.out.below hw); replace U3 := Lib.hid (U3.out.below hw); replace D := Lib.hid (gr_tr D.out hw); clear hh hw)
    | (go_at_call 14; go_loud ((with_reducible refine (Slice_at _ l o (a + b) b3 B3 _ (V.out.below D.out) HB3.out HBR3.out).mono ?_); rintro r w8 ⟨u4, rfl, hu, hw⟩; have U4 := Lib.hid hu; replace U := Lib.hid (U.out.below hw); replace U3 := Lib.hid (U3.out.below hw); replace S7 := Lib.hid (blk_below S7.out hw); replace D := Lib.hid (gr_tr D.out hw); clear hu hw))
    | (refine wpList_store_new rfl 27 (.tmp 16) (.tmp 88) rfl (stC b3) 27 _ rfl rfl (by cases b3 <;> kernel_rfl) (by cases b3 <;> rfl) (stC_one b3) ?_; intro w9 hh hw; have S9 := Lib.hid hh; replace U := Lib.hid (U.out.below hw); replace U3 := Lib.hid (U3.out.below hw); replace U4 := Lib.hid (U4.out.below hw); replace S7 := Lib.hid (blk_below S7.out hw); replace D := Lib.hid (gr_tr D.out hw); clear hh hw))
  cases b2
  · go_wp2_with (first
      | (refine wpList_load_row rfl 27 (.tmp 14) rfl w6.heap.size rfl 27 (stC false) (0, 0) _ S7.out Tryd.underlying27 rfl (by kernel_rfl) ?_)
      | (go_at_call 16; go_loud (refine (good_any false _).mono ?_; rintro r wa ⟨rfl, hw⟩; replace D := Lib.hid (gr_tr D.out hw); clear hw))
      | (go_at_call 13; go_loud (refine (known_any _ (tab_below TAB.out D.out)).mono ?_; rintro r wb ⟨rfl, hw⟩; replace D := Lib.hid (gr_tr D.out hw); clear hw)))
    go_ret
    exact ⟨rfl, D.out⟩
  · obtain ⟨k1, k2⟩ := sl_two HL.out HA1.out HBB.out HB1.out HB2.out
    rw [HB3.out] at k1
    subst k1
    rw [HAA.out, HBR2.out, HBR3.out] at k2
    subst k2
    have APOS := Lib.hid (show 0 < (A ++ B2).length from by
      have h1 := slOk_iff.1 HB1.out
      have h2 := HAA.out
      unfold slR at h2
      rw [if_pos HB1.out, ← outK_slB l o a h1.2.1] at h2
      rw [List.length_append, ← h2, outK_len]; omega)
    have h22 : (A ++ B2 == A ++ B2) = true := beq_self_eq_true _
    go_wp2_with (first
      | (refine wpList_load_row rfl 27 (.tmp 14) rfl w6.heap.size rfl 27 (stC true) (0, 0) _ S7.out Tryd.underlying27 rfl (by kernel_rfl) ?_)
      | (go_at_call 16; go_loud (refine (good_any true w9).mono ?_; rintro r wa ⟨rfl, hw⟩; replace U := Lib.hid (U.out.below hw); replace U3 := Lib.hid (U3.out.below hw); replace U4 := Lib.hid (U4.out.below hw); replace S9 := Lib.hid (blk_below S9.out hw); replace D := Lib.hid (gr_tr D.out hw); clear hw))
      | (refine wpList_load_row rfl 27 (.tmp 16) rfl w8.heap.size rfl 27 (stC true) (0, 0) _ S9.out Tryd.underlying27 rfl (by kernel_rfl) ?_)
      | (go_at_call 16; go_loud (refine (good_any true wa).mono ?_; rintro r wc ⟨rfl, hw⟩; replace U := Lib.hid (U.out.below hw); replace U3 := Lib.hid (U3.out.below hw); replace U4 := Lib.hid (U4.out.below hw); replace D := Lib.hid (gr_tr D.out hw); clear hw))
      | (go_at_call 18; go_loud (refine (Own_any _ A _ U.out (by have := AL.out; omega)).mono ?_; rintro r wd ⟨u5, rfl, ho, hw⟩; have O5 := Lib.hid ho; have UC := U4; have DB := D; have WB := Lib.hid hw; replace U3 := Lib.hid (U3.out.below hw); replace U4 := Lib.hid (U4.out.below hw); replace D := Lib.hid (gr_tr D.out hw); clear ho hw))
      | (at_builtin; go_loud (refine wpList_unguard (by rfl) (app_more rfl (.tmp 98) (.tmp 99) rfl u5 wc.heap.size A.length A rfl O5.out WB.out.size _ B2 rfl U3.out (by have := AL.out; have := BL2.out; omega) ?_); intro v6 w10 ho hg hw; have U6 := Lib.hid (BytesV.of_own (l := A ++ B2) (by rw [List.length_append]; exact ho)); have WB2 := Lib.hid (WB.out.trans hw); replace U4 := Lib.hid (U4.out.chg (Chg.of_grown (B := fun k => u5.ownBlock = some k) hg (fun k hk => hk)) (fun gg oo mm cc e h => by have h1 := (O5.out.lt gg h).1; have h2 := byt_lt UC.out APOS.out gg oo mm cc e; omega)); replace D := Lib.hid (DB.out.trans (WB2.out.mono DB.out.size)); clear ho hg hw))
      | (go_at_call 17; go_loud (refine (same_at _ _ (A ++ B2) (A ++ B2) true _ U4.out U6.out h22).mono ?_; rintro r w5 ⟨rfl, hw5⟩; subst hw5))
      | (go_at_call 13; go_loud (refine (known_any _ (tab_below TAB.out D.out)).mono ?_; rintro r wb ⟨rfl, hw⟩; replace D := Lib.hid (gr_tr D.out hw); clear hw)))
    go_ret
    exact ⟨rfl, D.out⟩
end Go.Proofs.YthnnopjakpjoeaaDoor
