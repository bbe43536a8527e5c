/- The law LogpageNamespaces: the walk. Printed by genlaw23t.py. -/
import Derived.Test.YthnnopjakpjoeaaDoorLaw23A
import Derived.Test.YthnnopjakpjoeaaDoorLogXM
import Derived.Test.YthnnopjakpjoeaaDoorLogT
namespace Go.Proofs.YthnnopjakpjoeaaDoor
open Go.RowKit Lg
set_option linter.unusedVariables false
set_option linter.unusedSimpArgs false
theorem Lg.nsRL_len (x : List (BitVec 32)) : (nsRL x).length ≤ 4096 := by
  unfold nsRL
  cases h : nsOkL x
  · rw [if_neg (by decide)]; decide
  · rw [if_pos rfl, nsBL_len (by unfold nsOkL at h; simp at h; exact h.1)]; exact Nat.le_refl _
set_option maxHeartbeats 6400000 in
set_option maxRecDepth 20000 in
theorem lawNamespaces (v : Value) (x : List (BitVec 32)) (at' more : Int) (by' : BitVec 8) (w : World) (hv : SliceV w (fun y : BitVec 32 => [Value.int .u32 (uv y)]) v x) (ha : -9223372036854775808 ≤ at' ∧ at' ≤ 9223372036854775807) (hm : -9223372036854775808 ≤ more ∧ more ≤ 9223372036854775807) (ht : Lib.TabIs Tryd.prog w "strings.asciiSpace" .u8 Lib.asciiSpaceTab) :
    Calls Tryd.prog 7 #[v, .agg #[.int .i64 at', .int .u8 (uv by'), .int .i64 more]] w fun e w' => e = .returned (.bool true) ∧ Below w.heap.size w w' := by
  obtain ⟨W, hW⟩ : ∃ W, W = w.alloc (.cells #[.int .i64 at', .int .u8 (uv by'), .int .i64 more] 90) := ⟨_, rfl⟩
  have D := Lib.hid (show Below w.heap.size w W by rw [hW]; exact gr_alloc w _)
  have XS := Lib.hid (show W.heap[w.heap.size]? = some (.cells #[.int .i64 at', .int .u8 (uv by'), .int .i64 more] 90 (0, 0)) by rw [hW]; exact heap_alloc_new w _)
  have HW := Lib.hid hW
  have V := Lib.hid (hv.below D.out)
  have TAB := Lib.hid (tab_below ht D.out)
  obtain ⟨av, cv, rfl, h0, h1, h2, h3⟩ := hv
  have hl9 : (x.length : Int) ≤ 9223372036854775807 := by omega
  have HA := Lib.hid ha; have HM := Lib.hid hm
  clear h0 h1 h2 h3 hW ht ha hm
  by_cases c1 : 1100 < x.length
  · have d1 : decide ((1100 : Int) < x.length) = true := decide_eq_true (by omega)
    have d2 : decide (1100 < x.length) = true := decide_eq_true c1
    clear c1
    go_enter Tryd.func7, Tryd.ntmps7
    go_upto_region 1 with (fail)
    first
      | rw [← HW.out]
      | (show Code.wp _ _ _ _ (w.alloc (.cells #[.int .i64 at', .int .u8 (uv by'), .int .i64 more] 90)); rw [← HW.out])
    go_wp2_with (go_at_call 13; go_loud (refine (known_any _ TAB.out).mono ?_; rintro r w1 ⟨rfl, hw⟩; have D1 := Lib.hid (gr_tr D.out hw); clear hw))
    go_ret
    exact ⟨rfl, D1.out⟩
  have d1 : decide ((1100 : Int) < x.length) = false := decide_eq_false (by omega)
  have d2 : decide (1100 < x.length) = false := decide_eq_false c1
  have HXL := Lib.hid (show x.length ≤ 1000000 by omega)
  clear c1
  obtain ⟨e, he⟩ : ∃ e, nsEL x = e := ⟨_, rfl⟩
  obtain ⟨B, hB, hBl⟩ : ∃ B, nsRL x = B ∧ B.length ≤ 4096 := ⟨_, rfl, Lg.nsRL_len x⟩
  have HE := Lib.hid he; have HB := Lib.hid hB; have HBL := Lib.hid hBl
  have h11 : (B == B) = true := beq_self_eq_true B
  have hee : (e != e) = false := by simp
  clear he hB hBl
  go_enter Tryd.func7, Tryd.ntmps7
  go_upto_region 1 with (fail)
  first
    | rw [← HW.out]
    | (show Code.wp _ _ _ _ (w.alloc (.cells #[.int .i64 at', .int .u8 (uv by'), .int .i64 more] 90)); rw [← HW.out])
  go_upto_region 8 with (first
    | (go_at_call 39; go_loud (refine (EncN_at _ x e B _ V.out HXL.out HE.out HB.out).mono ?_; rintro r w1 ⟨u1, rfl, hu, hw⟩; have U1 := Lib.hid (hu); have XS1 := Lib.hid (blk_below XS.out hw); have V1 := Lib.hid (V.out.below hw); have D1 := Lib.hid (gr_tr D.out hw); have T1 := Lib.hid (tab_below TAB.out hw); clear hw hu))
    | (go_at_call 40; go_loud (refine (rEncN_at _ x e B _ V1.out HXL.out HE.out HB.out).mono ?_; rintro r w2 ⟨u2, rfl, hu, hw⟩; have U2 := Lib.hid hu; replace U1 := Lib.hid (U1.out.below hw); have XS2 := Lib.hid (blk_below XS1.out hw); have D2 := Lib.hid (gr_tr D1.out hw); have T2 := Lib.hid (tab_below T1.out hw); clear hw hu))
    | (go_at_call 17; go_loud (refine (same_at _ _ B B true _ U1.out U2.out h11).mono ?_; rintro r w4 ⟨rfl, rfl⟩))
    | (refine wpList_load_row rfl 90 (.tmp 3) rfl w.heap.size rfl 90 _ (0, 0) _ XS2.out Tryd.underlying90 rfl (by kernel_rfl) ?_)
    | (go_at_call 41; go_loud (refine (spoil_any _ B at' more by' _ U2.out (by have := HBL.out; omega) HA.out HM.out).mono ?_; rintro r w5 ⟨bv, l, rfl, hv, hl, hw⟩; have BV := Lib.hid hv; have HL := Lib.hid (show l.length ≤ 5000 by have := HBL.out; omega); have D5 := Lib.hid (gr_tr D2.out hw); have T5 := Lib.hid (tab_below T2.out hw); clear hw hv hl)))
  obtain ⟨y, e2, hd⟩ : ∃ y e, decP 4096 nsRd nsOkB [] l = (y, e) := ⟨_, _, rfl⟩
  have HD := Lib.hid hd; have HD2 := Lib.hid ((ns_dec l).symm.trans hd)
  have hff : (e2 == e2) = true := beq_self_eq_true e2
  clear hd h11 hee d1 d2
  go_upto_region 10 with (first
    | (go_at_call 42; go_loud (refine (Decode_N l _ _ y e2 BV.out (by have := HL.out; omega) HD.out).mono ?_; rintro r w6 ⟨u6, rfl, hs, hw⟩; have S6 := Lib.hid hs; have B6 := Lib.hid (BV.out.below hw); have D6 := Lib.hid (gr_tr D5.out hw); have T6 := Lib.hid (tab_below T5.out hw); clear hs hw))
    | (go_at_call 43; go_loud (refine (rDecN_at l _ _ y e2 B6.out HL.out HD2.out).mono ?_; rintro r w7 ⟨u7, rfl, hs, hw⟩; have S7 := Lib.hid hs; have R7 := Lib.hid (S6.out.below hw); have D7 := Lib.hid (gr_tr D6.out hw); have T7 := Lib.hid (tab_below T6.out hw); clear hs hw)))
  obtain ⟨a6, c6, e6, -, hc6, hm6, r6⟩ := R7.out
  obtain ⟨a7, c7, e7, -, hc7, hm7, r7⟩ := S7.out
  rw [flat1] at r6 r7
  have P6 := Lib.hid (show Row w7 a6 (wh y) from r6); have P7 := Lib.hid (show Row w7 a7 (wh y) from r7)
  subst e6 e7
  have hy9 : (y.length : Int) ≤ 9223372036854775807 := by omega
  have hgg : (e2 != e2) = false := by simp
  clear r6 r7 hc6 hm6 hc7 hm7 hff
  go_upto_region 13 with (fail)
  go_loopw [14] (fun i wr => ∃ k : Nat, k ≤ y.length ∧ i = .int .i64 k ∧ Below w7.heap.size w7 wr) (fun i _ => y.length - (intOf i).toNat)
  case atStart => exact ⟨0, by omega, rfl, Below.refl _ _⟩
  case round =>
    obtain ⟨k, hk, rfl, hb⟩ := hrel
    have Bk := Lib.hid hb; clear hb
    by_cases hlt : k < y.length
    · have hx := wh_get y k y[k] (List.getElem?_eq_getElem hlt)
      obtain ⟨b, o, rfl, hc1⟩ := (P6.out.below Bk.out).at hx
      obtain ⟨b', o', rfl, hc2⟩ := (P7.out.below Bk.out).at hx
      obtain ⟨z, hzz⟩ : ∃ z, uv y[k] = z := ⟨_, rfl⟩
      rw [hzz] at hc1 hc2
      clear hx hzz
      go_wp2
      go_region
      all_goals (go_wp2; go_roundw)
      case rel => exact ⟨k + 1, by omega, by go_num, Bk.out.drew⟩
      case measure => simp [intOf]; omega
    · obtain rfl : k = y.length := by omega
      go_wp2_with (go_at_call 13; go_loud (refine (known_any _ (tab_below T7.out Bk.out)).mono ?_; rintro r w9 ⟨rfl, hw⟩; have D9 := Lib.hid (gr_tr (gr_tr D7.out Bk.out) hw); clear hw))
      go_ret
      exact ⟨rfl, D9.out⟩
end Go.Proofs.YthnnopjakpjoeaaDoor
