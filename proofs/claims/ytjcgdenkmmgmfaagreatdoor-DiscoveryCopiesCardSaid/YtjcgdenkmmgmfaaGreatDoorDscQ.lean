/- Discovery: the test for zeros; parse. Printed by gendscq.py. -/
import Derived.Test.YtjcgdenkmmgmfaaGreatDoorDscP
import Derived.Deep.DeepCutAuto
namespace Go.Proofs.YtjcgdenkmmgmfaaGreatDoor
open Go.RowKit Dsc
set_option linter.unusedVariables false
set_option linter.unusedSimpArgs false
theorem Equal_any (v u : Value) (l m : List (BitVec 8)) (w : World) (hv : BytesV w v l) (hu : BytesV w u m) :
    Calls Tryz.prog 64 #[v, u] w fun e w' => e = .returned (.bool (l == m)) ∧ w = w' := by
  have h1 := run_string hv
  have h2 := run_string hu
  have h3 := strOf_beq l m
  obtain ⟨a, c, rfl, _, _, _, _⟩ := hv
  obtain ⟨a', c', rfl, _, _, _, _⟩ := hu
  go_enter Tryz.func64, Tryz.ntmps64
  go_wp2
  go_ret
  exact ⟨rfl, rfl⟩
theorem Equal_at (v u : Value) (l m : List (BitVec 8)) (b : Bool) (w : World) (hv : BytesV w v l) (hu : BytesV w u m) (hb : (l == m) = b) :
    Calls Tryz.prog 64 #[v, u] w fun e w' => e = .returned (.bool b) ∧ w = w' := by
  subst hb; exact Equal_any v u l m w hv hu
theorem nz_at (x : BitVec 8) (b : Bool) (w : World) (hb : (x == 0#8) = b) : Calls Tryz.prog 42 #[.int .u8 (uv x)] w fun e w' => e = .returned (.bool (!b)) ∧ w = w' := by
  have h : (uv x != 0) = !b := by
    rw [← hb]
    by_cases h : x = 0#8
    · subst h; rfl
    · have h2 : uv x ≠ 0 := fun e => h (uv_inj (by rw [e]; simp [uv]))
      rw [beq_false_of_ne h]
      simpa using h2
  clear hb
  obtain ⟨y, hy⟩ : ∃ y, uv x = y := ⟨_, rfl⟩
  rw [hy] at h ⊢
  clear hy
  go_enter Tryz.func42, Tryz.ntmps42
  go_wp2
  go_ret
  exact ⟨by rw [← h]; rfl, rfl⟩
set_option maxHeartbeats 1600000 in
theorem idxNz_at (v : Value) (l : List (BitVec 8)) (w : World) (hv : BytesV w v l) :
    Calls Tryz.prog 60 #[v, .func (.func 42) #[] #[]] w fun e w' => (∃ j : Int, e = .returned (.int .i64 j) ∧ decide (0 ≤ j) = !(allZ l)) ∧ Below w.heap.size w w' := by
  have V := Lib.hid hv
  obtain ⟨a, c, rfl, -, hm1, hm2, -⟩ := id hv
  obtain ⟨n, hnn⟩ : ∃ n, l.length = n := ⟨_, rfl⟩
  have hmax : n ≤ 9223372036854775807 := by omega
  rw [hnn]
  have HN := Lib.hid hnn
  clear hv hnn hm1 hm2
  go_enter Tryz.func60, Tryz.ntmps60
  go_wp2
  go_loopw [5, 8] (fun _ i wr => ∃ k : Nat, k ≤ n ∧ i = .int .i64 k ∧ Hid ((l.take k).all (· == 0#8) = true) ∧ Below w.heap.size w wr) (fun _ i _ => n - (intOf i).toNat)
  case atStart => exact ⟨0, by omega, rfl, Lib.hid rfl, Below.refl _ _⟩
  case round =>
    obtain ⟨k, hk, rfl, hA, hb⟩ := hrel
    have C := Lib.hid hb
    clear hb
    by_cases hlt : k < n
    · obtain ⟨x, hx⟩ : ∃ x, l[k]? = some x := ⟨_, List.getElem?_eq_getElem (by rw [HN.out]; exact hlt)⟩
      obtain ⟨gq, o, cq, he⟩ := V.out.shapeAt (by rw [HN.out]; omega)
      injection he with he he' he''
      subst he; subst he''
      have hc2 : wr.cell? ⟨gq, o + k, none⟩ = some (.int .u8 (uv x)) := below_cellE C.out (BytesV.cellAt V.out hx)
      obtain ⟨b, hb⟩ : ∃ b, (x == 0#8) = b := ⟨_, rfl⟩
      have NZ := Lib.hid (fun w => nz_at x b w hb)
      have ALM := Lib.hid (fun h => all_more (· == 0#8) l k x hx (by rw [hb]; exact h) hA.out)
      have ALN := Lib.hid (fun h => all_no (· == 0#8) l k x hx (by rw [hb]; exact h))
      clear hx hb he'
      cases b
      · go_wp2_with (go_at_call 42; go_loud (refine (NZ.out _).mono ?_; rintro e w3 ⟨rfl, rfl⟩))
        go_ret
        exact ⟨⟨_, rfl, by unfold allZ; rw [ALN.out (by trivial), decide_eq_true (by omega)]; rfl⟩, C.out⟩
      · go_wp2_with (go_at_call 42; go_loud (refine (NZ.out _).mono ?_; rintro e w3 ⟨rfl, rfl⟩))
        go_roundw
        case rel => exact ⟨k + 1, by omega, by go_num, Lib.hid (ALM.out (by trivial)), C.out⟩
        case measure => simp [intOf]; omega
    · obtain rfl : k = n := by omega
      have HALL := Lib.hid (show allZ l = true by have := hA.out; rwa [List.take_of_length_le (by rw [HN.out]; exact Nat.le_refl _)] at this)
      go_wp2
      go_ret
      exact ⟨⟨-1, rfl, by rw [HALL.out]; rfl⟩, C.out⟩
theorem conNz_at (v : Value) (l : List (BitVec 8)) (b : Bool) (w : World) (hv : BytesV w v l) (hb : allZ l = b) :
    Calls Tryz.prog 41 #[v, .func (.func 42) #[] #[]] w fun e w' => e = .returned (.bool (!b)) ∧ Below w.heap.size w w' := by
  have IX := Lib.hid (fun w h => idxNz_at v l w h)
  rw [hb] at IX
  have S := Lib.hid hv
  obtain ⟨a, c, rfl, -⟩ := id hv
  clear hv hb
  go_enter Tryz.func41, Tryz.ntmps41
  go_wp2_with (go_at_call 60; go_loud (refine (IX.out _ S.out).mono ?_; rintro e w2 ⟨⟨j, rfl, hj⟩, hw⟩; have HJ := Lib.hid hj; clear hj))
  go_ret
  exact ⟨by rw [← HJ.out]; rfl, hw⟩
theorem uv_one (x : BitVec 8) : (uv x == 1) = (x == 1#8) := by
  rw [Bool.eq_iff_iff, beq_iff_eq, beq_iff_eq]
  exact ⟨fun h => uv_inj (by rw [h]; simp [uv]), fun h => by subst h; simp [uv]⟩
theorem rdR_fit {b : List (BitVec 8)} (h : b.length = 1024) : (rdR b).Fit := by
  have hl : ∀ (l : List (BitVec 8)), (Wire.rstrip l).length ≤ l.length := fun l => by
    unfold Wire.rstrip
    rw [List.length_reverse]
    have := (List.dropWhile_sublist (l := l.reverse) (fun x => x == 32#8)).length_le
    rw [List.length_reverse] at this
    exact this
  have h1 := hl (cut b 32 32); have h2 := hl (cut b 512 256)
  have h3 : (upto0 (cut b 256 256)).length ≤ (cut b 256 256).length := (List.takeWhile_sublist _).length_le
  rw [cut_len (by omega)] at h1 h2 h3
  exact ⟨by show (Wire.rstrip (cut b 32 32)).length ≤ _; omega, by show (upto0 (cut b 256 256)).length ≤ _; omega, by show (Wire.rstrip (cut b 512 256)).length ≤ _; omega⟩
set_option maxHeartbeats 12800000 in
set_option maxRecDepth 20000 in
theorem parse_at (v : Value) (b : List (BitVec 8)) (Z : Bool) (w : World) (hv : BytesV w v b) (hb : b.length = 1024) (hz : prs b = Z) :
    Calls Tryz.prog 44 #[v] w fun e w' => e = .returned (.tuple #[.agg (rdR b).cells.toArray, .bool Z]) ∧ Below w.heap.size w w' := by
  obtain ⟨gv, ov, cv, rfl⟩ := hv.shapeAt (by omega)
  have FIT := Lib.hid (rdR_fit hb)
  have HZ := Lib.hid (show ((rdR b).ok && ((rdR b).bytes == b)) = Z from hz)
  obtain ⟨r, hr⟩ : ∃ r, rdR b = r := ⟨_, rfl⟩
  rw [hr] at FIT HZ ⊢
  obtain ⟨x0, x1, rf, sc, po, ct, qu, sv, sb, ad⟩ := r
  have e0 : b.getD 0 0#8 = x0 := congrArg Rec.tr hr
  have e1 : b.getD 1 0#8 = x1 := congrArg Rec.fa hr
  have e2 : (b.getD 2 0#8 == 1#8) = rf := congrArg Rec.rf hr
  have e3 : (b.getD 3 0#8 == 1#8) = sc := congrArg Rec.sc hr
  have e4 : (num b 4 2).setWidth 16 = po := congrArg Rec.po hr
  have e5 : (num b 6 2).setWidth 16 = ct := congrArg Rec.ct hr
  have e6 : (num b 8 2).setWidth 16 = qu := congrArg Rec.qu hr
  have e7 : Wire.rstrip (cut b 32 32) = sv := congrArg Rec.sv hr
  have e8 : upto0 (cut b 256 256) = sb := congrArg Rec.sb hr
  have e9 : Wire.rstrip (cut b 512 256) = ad := congrArg Rec.ad hr
  clear hr hz
  have hat : ∀ (i : Nat) (x : BitVec 8), i < 1024 → b.getD i 0#8 = x → b[i]? = some x := fun i x hi e => by
    rw [List.getD_eq_getElem?_getD, List.getElem?_eq_getElem (by omega)] at e
    rw [List.getElem?_eq_getElem (by omega)]; exact congrArg some e
  obtain ⟨x2, hx2⟩ : ∃ x, b.getD 2 0#8 = x := ⟨_, rfl⟩
  obtain ⟨x3, hx3⟩ : ∃ x, b.getD 3 0#8 = x := ⟨_, rfl⟩
  rw [hx2, ← uv_one] at e2; rw [hx3, ← uv_one] at e3
  have b0 := BytesV.cellAt hv (hat 0 x0 (by decide) e0)
  have b1 := BytesV.cellAt hv (hat 1 x1 (by decide) e1)
  have b2 := BytesV.cellAt hv (hat 2 x2 (by decide) hx2)
  have b3 := BytesV.cellAt hv (hat 3 x3 (by decide) hx3)
  obtain ⟨u4, hu4, hc4, -⟩ := BytesV.cut (P := Tryz.prog) (T := 111) (E := 5) Tryz.underlying111 (by kernel_rfl) hv 4 6 (by decide) (by omega)
  obtain ⟨u6, hu6, hc6, -⟩ := BytesV.cut (P := Tryz.prog) (T := 111) (E := 5) Tryz.underlying111 (by kernel_rfl) hv 6 8 (by decide) (by omega)
  obtain ⟨u8, hu8, hc8, -⟩ := BytesV.cut (P := Tryz.prog) (T := 111) (E := 5) Tryz.underlying111 (by kernel_rfl) hv 8 10 (by decide) (by omega)
  replace hc4 : ∀ w', (Instr.slice 111 (.slice (some ⟨gv, ov, none⟩) 1024 cv) (some (.int .i64 4)) (some (.int .i64 6)) none).run Tryz.prog w' = .ok u4 w' := by rw [← hb]; exact hc4
  replace hc6 : ∀ w', (Instr.slice 111 (.slice (some ⟨gv, ov, none⟩) 1024 cv) (some (.int .i64 6)) (some (.int .i64 8)) none).run Tryz.prog w' = .ok u6 w' := by rw [← hb]; exact hc6
  replace hc8 : ∀ w', (Instr.slice 111 (.slice (some ⟨gv, ov, none⟩) 1024 cv) (some (.int .i64 8)) (some (.int .i64 10)) none).run Tryz.prog w' = .ok u8 w' := by rw [← hb]; exact hc8
  rw [cut_take b 4 2] at hu4; rw [cut_take b 6 2] at hu6; rw [cut_take b 8 2] at hu8
  obtain ⟨n4, hn4⟩ : ∃ z, num b 4 2 = z := ⟨_, rfl⟩
  obtain ⟨n6, hn6⟩ : ∃ z, num b 6 2 = z := ⟨_, rfl⟩
  obtain ⟨n8, hn8⟩ : ∃ z, num b 8 2 = z := ⟨_, rfl⟩
  rw [hn4] at e4; rw [hn6] at e5; rw [hn8] at e6
  have V4 := Lib.hid (fun w (h : BytesV w u4 (cut b 4 2)) => value_at u4 (cut b 4 2) n4 w h (by rw [cut_len (by omega)]; decide) hn4)
  have V6 := Lib.hid (fun w (h : BytesV w u6 (cut b 6 2)) => value_at u6 (cut b 6 2) n6 w h (by rw [cut_len (by omega)]; decide) hn6)
  have V8 := Lib.hid (fun w (h : BytesV w u8 (cut b 8 2)) => value_at u8 (cut b 8 2) n8 w h (by rw [cut_len (by omega)]; decide) hn8)
  have P1 := Lib.hid (fun w (h : BytesV w (.slice (some ⟨gv, ov, none⟩) b.length cv) b) => padded_at _ b 32 32 sv w h (by omega) (by omega) e7)
  have P2 := Lib.hid (fun w (h : BytesV w (.slice (some ⟨gv, ov, none⟩) b.length cv) b) => named_at _ b 256 256 sb w h (by omega) (by decide) (by omega) e8)
  have P3 := Lib.hid (fun w (h : BytesV w (.slice (some ⟨gv, ov, none⟩) b.length cv) b) => padded_at _ b 512 256 ad w h (by omega) (by omega) e9)
  have E4 := Lib.hid e4; have E5 := Lib.hid e5; have E6 := Lib.hid e6; have E2 := Lib.hid e2; have E3 := Lib.hid e3
  have VV := Lib.hid hv; have UU4 := Lib.hid hu4; have UU6 := Lib.hid hu6; have UU8 := Lib.hid hu8
  have HB := Lib.hid hb
  rw [hb] at P1 P2 P3 VV ⊢
  have EQ := Lib.hid (fun w u (l : List (BitVec 8)) z (h : BytesV w u l) (h' : BytesV w (.slice (some ⟨gv, ov, none⟩) 1024 cv) b) (hz : (l == b) = z) => Equal_at u (.slice (some ⟨gv, ov, none⟩) 1024 cv) l b z w h h' hz)
  clear e0 e1 e7 e8 e9 hx2 hx3 hat hv hu4 hu6 hu8 hn4 hn6 hn8 hb
  obtain ⟨V, hV⟩ : ∃ V, V = w.alloc (.cells #[.int .u8 0, .int .u8 0, .bool false, .bool false, .int .u16 0, .int .u16 0, .int .u16 0, .string ⟨#[]⟩, .string ⟨#[]⟩, .string ⟨#[]⟩] 37) := ⟨_, rfl⟩
  have D := Lib.hid (show Below w.heap.size w V by rw [hV]; exact gr_alloc w _)
  have Z2 := Lib.hid (show V.heap[w.heap.size]? = some (.cells #[.int .u8 0, .int .u8 0, .bool false, .bool false, .int .u16 0, .int .u16 0, .int .u16 0, .string ⟨#[]⟩, .string ⟨#[]⟩, .string ⟨#[]⟩] 37 (0, 0)) by rw [hV]; exact heap_alloc_new w _)
  have HV := Lib.hid hV
  replace VV := Lib.hid (VV.out.below D.out); replace UU4 := Lib.hid (UU4.out.below D.out); replace UU6 := Lib.hid (UU6.out.below D.out); replace UU8 := Lib.hid (UU8.out.below D.out)
  have f0 : V.cell? ⟨gv, ov + 0, none⟩ = some (.int .u8 (uv x0)) := below_cellE D.out b0
  have f1 : V.cell? ⟨gv, ov + 1, none⟩ = some (.int .u8 (uv x1)) := below_cellE D.out b1
  have f2 : V.cell? ⟨gv, ov + 2, none⟩ = some (.int .u8 (uv x2)) := below_cellE D.out b2
  have f3 : V.cell? ⟨gv, ov + 3, none⟩ = some (.int .u8 (uv x3)) := below_cellE D.out b3
  rw [Nat.add_zero] at f0
  clear hV b0 b1 b2 b3
  go_enter Tryz.func44, Tryz.ntmps44
  go_upto_region 2 with fail
  rw [← HV.out]
  clear HV
  go_cut [6] (fun s wx => ∃ q : Nat, s = .pointer (some ⟨q, 0, none⟩) ∧ V.heap.size ≤ q ∧ wx.heap[q]? = some (.cells #[.int .u8 (uv x0), .int .u8 (uv x1), .bool rf, .bool sc, .int .u16 (uv po), .int .u16 (uv ct), .int .u16 (uv qu), .string (strOf sv), .string (strOf sb), .string (strOf ad)] 37 (0, 0)) ∧ Below V.heap.size V wx)
  case first =>
    have q0 : ∀ y : KeepT nowhere V, y.val.cell? ⟨gv, ov, none⟩ = some (.int .u8 (uv x0)) := fun y => y.cell f0 id
    have q1 : ∀ y : KeepT nowhere V, y.val.cell? ⟨gv, ov + 1, none⟩ = some (.int .u8 (uv x1)) := fun y => y.cell f1 id
    have q2 : ∀ y : KeepT nowhere V, y.val.cell? ⟨gv, ov + 2, none⟩ = some (.int .u8 (uv x2)) := fun y => y.cell f2 id
    have q3 : ∀ y : KeepT nowhere V, y.val.cell? ⟨gv, ov + 3, none⟩ = some (.int .u8 (uv x3)) := fun y => y.cell f3 id
    clear f0 f1 f2 f3
    refine wp_region_planT nowhere (.firm 0 (.firm 1 (.firm 2 (.firm 3 (.firm 4 (.firm 5 (.firm 6 (.firm 7 (.firm 8 (.firm 9 (.firm 10 (.firm 11 (.firm 12 (.firm 13 (.firm 14 (.firm 15 (.firm 18 (.firm 19 (.firm 22 (.firm 23 (.firm 26 (.firm 28 (.firm 30 (.two 16 (.firm 17 (.two 20 (.firm 21 (.two 24 (.firm 25 (.two 27 (.two 29 (.two 31 (.firm 32 (.one 33 (.one 34 .done))) 33 (.one 31 (.firm 32 (.one 34 .done)))) 33 (.one 29 (.one 31 (.firm 32 (.one 34 .done))))) 33 (.one 27 (.one 29 (.one 31 (.firm 32 (.one 34 .done))))))) 33 (.one 24 (.firm 25 (.one 27 (.one 29 (.one 31 (.firm 32 (.one 34 .done))))))))) 33 (.one 20 (.firm 21 (.one 24 (.firm 25 (.one 27 (.one 29 (.one 31 (.firm 32 (.one 34 .done))))))))))) 33 (.one 16 (.firm 17 (.one 20 (.firm 21 (.one 24 (.firm 25 (.one 27 (.one 29 (.one 31 (.firm 32 (.one 34 .done)))))))))))))))))))))))))))))))))))
      (by kernel_rfl) (by kernel_rfl) (by intro c a d v w h; cases d <;> exact h) ?_
    intro W1 K1 C1
    replace VV := Lib.hid (VV.out.below C1.out); replace UU4 := Lib.hid (UU4.out.below C1.out); replace UU6 := Lib.hid (UU6.out.below C1.out); replace UU8 := Lib.hid (UU8.out.below C1.out)
    repeat (refine wpT_firm rfl (fun K hK => ?_); simp only [Keep]; go_simp; refine hK _ ?_; clear hK K)
    refine wpT_two rfl rfl ?_ ?_
    · go_wp2_with (go_at_call 40; go_loud (refine (V4.out _ UU4.out).mono ?_; rintro e wz ⟨rfl, rfl⟩))
      refine ⟨K1.out, ?_⟩
      repeat (refine wpT_firm rfl (fun K hK => ?_); simp only [Keep]; go_simp; refine hK _ ?_; clear hK K)
      refine wpT_two rfl rfl ?_ ?_
      · go_wp2_with (go_at_call 40; go_loud (refine (V6.out _ UU6.out).mono ?_; rintro e wz ⟨rfl, rfl⟩))
        refine ⟨K1.out, ?_⟩
        repeat (refine wpT_firm rfl (fun K hK => ?_); simp only [Keep]; go_simp; refine hK _ ?_; clear hK K)
        refine wpT_two rfl rfl ?_ ?_
        · go_wp2_with (go_at_call 40; go_loud (refine (V8.out _ UU8.out).mono ?_; rintro e wz ⟨rfl, rfl⟩))
          refine ⟨K1.out, ?_⟩
          repeat (refine wpT_firm rfl (fun K hK => ?_); simp only [Keep]; go_simp; refine hK _ ?_; clear hK K)
          refine wpT_two rfl rfl ?_ ?_
          · go_wp2_with (go_at_call 62; go_loud (refine (P1.out _ VV.out).mono ?_; rintro e w2 ⟨rfl, hw⟩; have hb : Below W1.heap.size W1 w2 := (by rw [hw]; exact Below.refl _ _); replace VV := Lib.hid (VV.out.below hb); replace UU4 := Lib.hid (UU4.out.below hb); replace UU6 := Lib.hid (UU6.out.below hb); replace UU8 := Lib.hid (UU8.out.below hb); have C2 := Lib.hid (gr_tr C1.out hb); have K2 := Lib.hid (K1.out.below hb); clear hb hw))
            refine ⟨K2.out, ?_⟩
            refine wpT_two rfl rfl ?_ ?_
            · go_wp2_with (go_at_call 63; go_loud (refine (P2.out _ VV.out).mono ?_; rintro e w3 ⟨rfl, hb⟩; replace VV := Lib.hid (VV.out.below hb); replace UU4 := Lib.hid (UU4.out.below hb); replace UU6 := Lib.hid (UU6.out.below hb); replace UU8 := Lib.hid (UU8.out.below hb); have C3 := Lib.hid (gr_tr C2.out hb); have K3 := Lib.hid (K2.out.below hb); clear hb))
              refine ⟨K3.out, ?_⟩
              refine wpT_two rfl rfl ?_ ?_
              · go_wp2_with (go_at_call 62; go_loud (refine (P3.out _ VV.out).mono ?_; rintro e w4 ⟨rfl, hw⟩; have hb : Below w3.heap.size w3 w4 := (by rw [hw]; exact Below.refl _ _); replace VV := Lib.hid (VV.out.below hb); replace UU4 := Lib.hid (UU4.out.below hb); replace UU6 := Lib.hid (UU6.out.below hb); replace UU8 := Lib.hid (UU8.out.below hb); have C4 := Lib.hid (gr_tr C3.out hb); have K4 := Lib.hid (K3.out.below hb); clear hb hw))
                refine ⟨K4.out, ?_⟩
                repeat (refine wpT_firm rfl (fun K hK => ?_); simp only [Keep]; go_simp; refine hK _ ?_; clear hK K)
                refine wpT_chain rfl ?_
                go_wp2
                refine ⟨K4.out.alloc _, ?_⟩
                have ZQ := Lib.hid (heap_alloc_new w4 (.cells #[.int .u8 0, .int .u8 0, .bool false, .bool false, .int .u16 0, .int .u16 0, .int .u16 0, .string ⟨#[]⟩, .string ⟨#[]⟩, .string ⟨#[]⟩] 37))
                have QL := Lib.hid (show V.heap.size ≤ w4.heap.size from C4.out.size)
                obtain ⟨w5, hw5⟩ : ∃ X, X = w4.alloc (.cells #[.int .u8 0, .int .u8 0, .bool false, .bool false, .int .u16 0, .int .u16 0, .int .u16 0, .string ⟨#[]⟩, .string ⟨#[]⟩, .string ⟨#[]⟩] 37) := ⟨_, rfl⟩
                have hb : Below w4.heap.size w4 w5 := (by rw [hw5]; exact gr_alloc _ _)
                rw [← hw5] at ZQ ⊢
                replace VV := Lib.hid (VV.out.below hb)
                replace UU4 := Lib.hid (UU4.out.below hb)
                replace UU6 := Lib.hid (UU6.out.below hb)
                replace UU8 := Lib.hid (UU8.out.below hb)
                have C5 := Lib.hid (gr_tr C4.out hb)
                have K5 := Lib.hid (K4.out.below hb)
                clear hb hw5
                obtain ⟨q, hq⟩ : ∃ q, w4.heap.size = q := ⟨_, rfl⟩
                rw [hq] at ZQ QL ⊢
                clear hq
                refine wpT_chain rfl ?_
                refine wpList_store_row rfl 37 (.tmp 6) (.tmp 43) rfl q #[.int .u8 (uv x0), .int .u8 (uv x1), .bool rf, .bool sc, .int .u16 (uv po), .int .u16 (uv ct), .int .u16 (uv qu), .string (strOf sv), .string (strOf sb), .string (strOf ad)] rfl rfl 37 #[.int .u8 0, .int .u8 0, .bool false, .bool false, .int .u16 0, .int .u16 0, .int .u16 0, .string ⟨#[]⟩, .string ⟨#[]⟩, .string ⟨#[]⟩] ZQ.out (by kernel_rfl) rfl (by simp [Value.oneCell']) ?_
                have ZR2 := Lib.hid (setRow_heap _ _ _ #[.int .u8 (uv x0), .int .u8 (uv x1), .bool rf, .bool sc, .int .u16 (uv po), .int .u16 (uv ct), .int .u16 (uv qu), .string (strOf sv), .string (strOf sb), .string (strOf ad)] _ _ ZQ.out)
                have C6 := Lib.hid (below_setRow C5.out QL.out #[.int .u8 (uv x0), .int .u8 (uv x1), .bool rf, .bool sc, .int .u16 (uv po), .int .u16 (uv ct), .int .u16 (uv qu), .string (strOf sv), .string (strOf sb), .string (strOf ad)])
                have K6 := Lib.hid (K5.out.base (below_setRow (Below.refl _ _) (show V.heap.size ≤ q from QL.out) #[.int .u8 (uv x0), .int .u8 (uv x1), .bool rf, .bool sc, .int .u16 (uv po), .int .u16 (uv ct), .int .u16 (uv qu), .string (strOf sv), .string (strOf sb), .string (strOf ad)]))
                go_wp2
                refine ⟨K6.out, ?_⟩
                unfold wpT
                go_wp2
                go_meet
                exact ⟨q, rfl, QL.out, ZR2.out, C6.out⟩
              · go_wp2
                refine ⟨K3.out.alloc _, ?_⟩
                have ZQ := Lib.hid (heap_alloc_new w3 (.cells #[.int .u8 0, .int .u8 0, .bool false, .bool false, .int .u16 0, .int .u16 0, .int .u16 0, .string ⟨#[]⟩, .string ⟨#[]⟩, .string ⟨#[]⟩] 37))
                have QL := Lib.hid (show V.heap.size ≤ w3.heap.size from C3.out.size)
                obtain ⟨w4, hw4⟩ : ∃ X, X = w3.alloc (.cells #[.int .u8 0, .int .u8 0, .bool false, .bool false, .int .u16 0, .int .u16 0, .int .u16 0, .string ⟨#[]⟩, .string ⟨#[]⟩, .string ⟨#[]⟩] 37) := ⟨_, rfl⟩
                have hb : Below w3.heap.size w3 w4 := (by rw [hw4]; exact gr_alloc _ _)
                rw [← hw4] at ZQ ⊢
                replace VV := Lib.hid (VV.out.below hb)
                replace UU4 := Lib.hid (UU4.out.below hb)
                replace UU6 := Lib.hid (UU6.out.below hb)
                replace UU8 := Lib.hid (UU8.out.below hb)
                have C4 := Lib.hid (gr_tr C3.out hb)
                have K4 := Lib.hid (K3.out.below hb)
                clear hb hw4
                obtain ⟨q, hq⟩ : ∃ q, w3.heap.size = q := ⟨_, rfl⟩
                rw [hq] at ZQ QL ⊢
                clear hq
                refine wpT_chain rfl ?_
                go_wp2_with (go_at_call 62; go_loud (refine (P3.out _ VV.out).mono ?_; rintro e w5 ⟨rfl, hw⟩; have hb : Below w4.heap.size w4 w5 := (by rw [hw]; exact Below.refl _ _); replace VV := Lib.hid (VV.out.below hb); replace UU4 := Lib.hid (UU4.out.below hb); replace UU6 := Lib.hid (UU6.out.below hb); replace UU8 := Lib.hid (UU8.out.below hb); replace ZQ := Lib.hid (blk_below ZQ.out hb); have C5 := Lib.hid (gr_tr C4.out hb); have K5 := Lib.hid (K4.out.below hb); clear hb hw))
                refine ⟨K5.out, ?_⟩
                repeat (refine wpT_firm rfl (fun K hK => ?_); simp only [Keep]; go_simp; refine hK _ ?_; clear hK K)
                refine wpT_chain rfl ?_
                refine wpList_store_row rfl 37 (.tmp 6) (.tmp 43) rfl q #[.int .u8 (uv x0), .int .u8 (uv x1), .bool rf, .bool sc, .int .u16 (uv po), .int .u16 (uv ct), .int .u16 (uv qu), .string (strOf sv), .string (strOf sb), .string (strOf ad)] rfl rfl 37 #[.int .u8 0, .int .u8 0, .bool false, .bool false, .int .u16 0, .int .u16 0, .int .u16 0, .string ⟨#[]⟩, .string ⟨#[]⟩, .string ⟨#[]⟩] ZQ.out (by kernel_rfl) rfl (by simp [Value.oneCell']) ?_
                have ZR2 := Lib.hid (setRow_heap _ _ _ #[.int .u8 (uv x0), .int .u8 (uv x1), .bool rf, .bool sc, .int .u16 (uv po), .int .u16 (uv ct), .int .u16 (uv qu), .string (strOf sv), .string (strOf sb), .string (strOf ad)] _ _ ZQ.out)
                have C6 := Lib.hid (below_setRow C5.out QL.out #[.int .u8 (uv x0), .int .u8 (uv x1), .bool rf, .bool sc, .int .u16 (uv po), .int .u16 (uv ct), .int .u16 (uv qu), .string (strOf sv), .string (strOf sb), .string (strOf ad)])
                have K6 := Lib.hid (K5.out.base (below_setRow (Below.refl _ _) (show V.heap.size ≤ q from QL.out) #[.int .u8 (uv x0), .int .u8 (uv x1), .bool rf, .bool sc, .int .u16 (uv po), .int .u16 (uv ct), .int .u16 (uv qu), .string (strOf sv), .string (strOf sb), .string (strOf ad)]))
                go_wp2
                refine ⟨K6.out, ?_⟩
                unfold wpT
                go_wp2
                go_meet
                exact ⟨q, rfl, QL.out, ZR2.out, C6.out⟩
            · go_wp2
              refine ⟨K2.out.alloc _, ?_⟩
              have ZQ := Lib.hid (heap_alloc_new w2 (.cells #[.int .u8 0, .int .u8 0, .bool false, .bool false, .int .u16 0, .int .u16 0, .int .u16 0, .string ⟨#[]⟩, .string ⟨#[]⟩, .string ⟨#[]⟩] 37))
              have QL := Lib.hid (show V.heap.size ≤ w2.heap.size from C2.out.size)
              obtain ⟨w3, hw3⟩ : ∃ X, X = w2.alloc (.cells #[.int .u8 0, .int .u8 0, .bool false, .bool false, .int .u16 0, .int .u16 0, .int .u16 0, .string ⟨#[]⟩, .string ⟨#[]⟩, .string ⟨#[]⟩] 37) := ⟨_, rfl⟩
              have hb : Below w2.heap.size w2 w3 := (by rw [hw3]; exact gr_alloc _ _)
              rw [← hw3] at ZQ ⊢
              replace VV := Lib.hid (VV.out.below hb)
              replace UU4 := Lib.hid (UU4.out.below hb)
              replace UU6 := Lib.hid (UU6.out.below hb)
              replace UU8 := Lib.hid (UU8.out.below hb)
              have C3 := Lib.hid (gr_tr C2.out hb)
              have K3 := Lib.hid (K2.out.below hb)
              clear hb hw3
              obtain ⟨q, hq⟩ : ∃ q, w2.heap.size = q := ⟨_, rfl⟩
              rw [hq] at ZQ QL ⊢
              clear hq
              refine wpT_chain rfl ?_
              go_wp2_with (go_at_call 63; go_loud (refine (P2.out _ VV.out).mono ?_; rintro e w4 ⟨rfl, hb⟩; replace VV := Lib.hid (VV.out.below hb); replace UU4 := Lib.hid (UU4.out.below hb); replace UU6 := Lib.hid (UU6.out.below hb); replace UU8 := Lib.hid (UU8.out.below hb); replace ZQ := Lib.hid (blk_below ZQ.out hb); have C4 := Lib.hid (gr_tr C3.out hb); have K4 := Lib.hid (K3.out.below hb); clear hb))
              refine ⟨K4.out, ?_⟩
              refine wpT_chain rfl ?_
              go_wp2_with (go_at_call 62; go_loud (refine (P3.out _ VV.out).mono ?_; rintro e w5 ⟨rfl, hw⟩; have hb : Below w4.heap.size w4 w5 := (by rw [hw]; exact Below.refl _ _); replace VV := Lib.hid (VV.out.below hb); replace UU4 := Lib.hid (UU4.out.below hb); replace UU6 := Lib.hid (UU6.out.below hb); replace UU8 := Lib.hid (UU8.out.below hb); replace ZQ := Lib.hid (blk_below ZQ.out hb); have C5 := Lib.hid (gr_tr C4.out hb); have K5 := Lib.hid (K4.out.below hb); clear hb hw))
              refine ⟨K5.out, ?_⟩
              repeat (refine wpT_firm rfl (fun K hK => ?_); simp only [Keep]; go_simp; refine hK _ ?_; clear hK K)
              refine wpT_chain rfl ?_
              refine wpList_store_row rfl 37 (.tmp 6) (.tmp 43) rfl q #[.int .u8 (uv x0), .int .u8 (uv x1), .bool rf, .bool sc, .int .u16 (uv po), .int .u16 (uv ct), .int .u16 (uv qu), .string (strOf sv), .string (strOf sb), .string (strOf ad)] rfl rfl 37 #[.int .u8 0, .int .u8 0, .bool false, .bool false, .int .u16 0, .int .u16 0, .int .u16 0, .string ⟨#[]⟩, .string ⟨#[]⟩, .string ⟨#[]⟩] ZQ.out (by kernel_rfl) rfl (by simp [Value.oneCell']) ?_
              have ZR2 := Lib.hid (setRow_heap _ _ _ #[.int .u8 (uv x0), .int .u8 (uv x1), .bool rf, .bool sc, .int .u16 (uv po), .int .u16 (uv ct), .int .u16 (uv qu), .string (strOf sv), .string (strOf sb), .string (strOf ad)] _ _ ZQ.out)
              have C6 := Lib.hid (below_setRow C5.out QL.out #[.int .u8 (uv x0), .int .u8 (uv x1), .bool rf, .bool sc, .int .u16 (uv po), .int .u16 (uv ct), .int .u16 (uv qu), .string (strOf sv), .string (strOf sb), .string (strOf ad)])
              have K6 := Lib.hid (K5.out.base (below_setRow (Below.refl _ _) (show V.heap.size ≤ q from QL.out) #[.int .u8 (uv x0), .int .u8 (uv x1), .bool rf, .bool sc, .int .u16 (uv po), .int .u16 (uv ct), .int .u16 (uv qu), .string (strOf sv), .string (strOf sb), .string (strOf ad)]))
              go_wp2
              refine ⟨K6.out, ?_⟩
              unfold wpT
              go_wp2
              go_meet
              exact ⟨q, rfl, QL.out, ZR2.out, C6.out⟩
          · go_wp2
            refine ⟨K1.out.alloc _, ?_⟩
            have ZQ := Lib.hid (heap_alloc_new W1 (.cells #[.int .u8 0, .int .u8 0, .bool false, .bool false, .int .u16 0, .int .u16 0, .int .u16 0, .string ⟨#[]⟩, .string ⟨#[]⟩, .string ⟨#[]⟩] 37))
            have QL := Lib.hid (show V.heap.size ≤ W1.heap.size from C1.out.size)
            obtain ⟨w2, hw2⟩ : ∃ X, X = W1.alloc (.cells #[.int .u8 0, .int .u8 0, .bool false, .bool false, .int .u16 0, .int .u16 0, .int .u16 0, .string ⟨#[]⟩, .string ⟨#[]⟩, .string ⟨#[]⟩] 37) := ⟨_, rfl⟩
            have hb : Below W1.heap.size W1 w2 := (by rw [hw2]; exact gr_alloc _ _)
            rw [← hw2] at ZQ ⊢
            replace VV := Lib.hid (VV.out.below hb)
            replace UU4 := Lib.hid (UU4.out.below hb)
            replace UU6 := Lib.hid (UU6.out.below hb)
            replace UU8 := Lib.hid (UU8.out.below hb)
            have C2 := Lib.hid (gr_tr C1.out hb)
            have K2 := Lib.hid (K1.out.below hb)
            clear hb hw2
            obtain ⟨q, hq⟩ : ∃ q, W1.heap.size = q := ⟨_, rfl⟩
            rw [hq] at ZQ QL ⊢
            clear hq
            refine wpT_chain rfl ?_
            go_wp2_with (go_at_call 62; go_loud (refine (P1.out _ VV.out).mono ?_; rintro e w3 ⟨rfl, hw⟩; have hb : Below w2.heap.size w2 w3 := (by rw [hw]; exact Below.refl _ _); replace VV := Lib.hid (VV.out.below hb); replace UU4 := Lib.hid (UU4.out.below hb); replace UU6 := Lib.hid (UU6.out.below hb); replace UU8 := Lib.hid (UU8.out.below hb); replace ZQ := Lib.hid (blk_below ZQ.out hb); have C3 := Lib.hid (gr_tr C2.out hb); have K3 := Lib.hid (K2.out.below hb); clear hb hw))
            refine ⟨K3.out, ?_⟩
            refine wpT_chain rfl ?_
            go_wp2_with (go_at_call 63; go_loud (refine (P2.out _ VV.out).mono ?_; rintro e w4 ⟨rfl, hb⟩; replace VV := Lib.hid (VV.out.below hb); replace UU4 := Lib.hid (UU4.out.below hb); replace UU6 := Lib.hid (UU6.out.below hb); replace UU8 := Lib.hid (UU8.out.below hb); replace ZQ := Lib.hid (blk_below ZQ.out hb); have C4 := Lib.hid (gr_tr C3.out hb); have K4 := Lib.hid (K3.out.below hb); clear hb))
            refine ⟨K4.out, ?_⟩
            refine wpT_chain rfl ?_
            go_wp2_with (go_at_call 62; go_loud (refine (P3.out _ VV.out).mono ?_; rintro e w5 ⟨rfl, hw⟩; have hb : Below w4.heap.size w4 w5 := (by rw [hw]; exact Below.refl _ _); replace VV := Lib.hid (VV.out.below hb); replace UU4 := Lib.hid (UU4.out.below hb); replace UU6 := Lib.hid (UU6.out.below hb); replace UU8 := Lib.hid (UU8.out.below hb); replace ZQ := Lib.hid (blk_below ZQ.out hb); have C5 := Lib.hid (gr_tr C4.out hb); have K5 := Lib.hid (K4.out.below hb); clear hb hw))
            refine ⟨K5.out, ?_⟩
            repeat (refine wpT_firm rfl (fun K hK => ?_); simp only [Keep]; go_simp; refine hK _ ?_; clear hK K)
            refine wpT_chain rfl ?_
            refine wpList_store_row rfl 37 (.tmp 6) (.tmp 43) rfl q #[.int .u8 (uv x0), .int .u8 (uv x1), .bool rf, .bool sc, .int .u16 (uv po), .int .u16 (uv ct), .int .u16 (uv qu), .string (strOf sv), .string (strOf sb), .string (strOf ad)] rfl rfl 37 #[.int .u8 0, .int .u8 0, .bool false, .bool false, .int .u16 0, .int .u16 0, .int .u16 0, .string ⟨#[]⟩, .string ⟨#[]⟩, .string ⟨#[]⟩] ZQ.out (by kernel_rfl) rfl (by simp [Value.oneCell']) ?_
            have ZR2 := Lib.hid (setRow_heap _ _ _ #[.int .u8 (uv x0), .int .u8 (uv x1), .bool rf, .bool sc, .int .u16 (uv po), .int .u16 (uv ct), .int .u16 (uv qu), .string (strOf sv), .string (strOf sb), .string (strOf ad)] _ _ ZQ.out)
            have C6 := Lib.hid (below_setRow C5.out QL.out #[.int .u8 (uv x0), .int .u8 (uv x1), .bool rf, .bool sc, .int .u16 (uv po), .int .u16 (uv ct), .int .u16 (uv qu), .string (strOf sv), .string (strOf sb), .string (strOf ad)])
            have K6 := Lib.hid (K5.out.base (below_setRow (Below.refl _ _) (show V.heap.size ≤ q from QL.out) #[.int .u8 (uv x0), .int .u8 (uv x1), .bool rf, .bool sc, .int .u16 (uv po), .int .u16 (uv ct), .int .u16 (uv qu), .string (strOf sv), .string (strOf sb), .string (strOf ad)]))
            go_wp2
            refine ⟨K6.out, ?_⟩
            unfold wpT
            go_wp2
            go_meet
            exact ⟨q, rfl, QL.out, ZR2.out, C6.out⟩
        · go_wp2
          refine ⟨K1.out.alloc _, ?_⟩
          have ZQ := Lib.hid (heap_alloc_new W1 (.cells #[.int .u8 0, .int .u8 0, .bool false, .bool false, .int .u16 0, .int .u16 0, .int .u16 0, .string ⟨#[]⟩, .string ⟨#[]⟩, .string ⟨#[]⟩] 37))
          have QL := Lib.hid (show V.heap.size ≤ W1.heap.size from C1.out.size)
          obtain ⟨w2, hw2⟩ : ∃ X, X = W1.alloc (.cells #[.int .u8 0, .int .u8 0, .bool false, .bool false, .int .u16 0, .int .u16 0, .int .u16 0, .string ⟨#[]⟩, .string ⟨#[]⟩, .string ⟨#[]⟩] 37) := ⟨_, rfl⟩
          have hb : Below W1.heap.size W1 w2 := (by rw [hw2]; exact gr_alloc _ _)
          rw [← hw2] at ZQ ⊢
          replace VV := Lib.hid (VV.out.below hb)
          replace UU4 := Lib.hid (UU4.out.below hb)
          replace UU6 := Lib.hid (UU6.out.below hb)
          replace UU8 := Lib.hid (UU8.out.below hb)
          have C2 := Lib.hid (gr_tr C1.out hb)
          have K2 := Lib.hid (K1.out.below hb)
          clear hb hw2
          obtain ⟨q, hq⟩ : ∃ q, W1.heap.size = q := ⟨_, rfl⟩
          rw [hq] at ZQ QL ⊢
          clear hq
          refine wpT_chain rfl ?_
          go_wp2_with (go_at_call 40; go_loud (refine (V8.out _ UU8.out).mono ?_; rintro e wz ⟨rfl, rfl⟩))
          refine ⟨K2.out, ?_⟩
          repeat (refine wpT_firm rfl (fun K hK => ?_); simp only [Keep]; go_simp; refine hK _ ?_; clear hK K)
          refine wpT_chain rfl ?_
          go_wp2_with (go_at_call 62; go_loud (refine (P1.out _ VV.out).mono ?_; rintro e w3 ⟨rfl, hw⟩; have hb : Below w2.heap.size w2 w3 := (by rw [hw]; exact Below.refl _ _); replace VV := Lib.hid (VV.out.below hb); replace UU4 := Lib.hid (UU4.out.below hb); replace UU6 := Lib.hid (UU6.out.below hb); replace UU8 := Lib.hid (UU8.out.below hb); replace ZQ := Lib.hid (blk_below ZQ.out hb); have C3 := Lib.hid (gr_tr C2.out hb); have K3 := Lib.hid (K2.out.below hb); clear hb hw))
          refine ⟨K3.out, ?_⟩
          refine wpT_chain rfl ?_
          go_wp2_with (go_at_call 63; go_loud (refine (P2.out _ VV.out).mono ?_; rintro e w4 ⟨rfl, hb⟩; replace VV := Lib.hid (VV.out.below hb); replace UU4 := Lib.hid (UU4.out.below hb); replace UU6 := Lib.hid (UU6.out.below hb); replace UU8 := Lib.hid (UU8.out.below hb); replace ZQ := Lib.hid (blk_below ZQ.out hb); have C4 := Lib.hid (gr_tr C3.out hb); have K4 := Lib.hid (K3.out.below hb); clear hb))
          refine ⟨K4.out, ?_⟩
          refine wpT_chain rfl ?_
          go_wp2_with (go_at_call 62; go_loud (refine (P3.out _ VV.out).mono ?_; rintro e w5 ⟨rfl, hw⟩; have hb : Below w4.heap.size w4 w5 := (by rw [hw]; exact Below.refl _ _); replace VV := Lib.hid (VV.out.below hb); replace UU4 := Lib.hid (UU4.out.below hb); replace UU6 := Lib.hid (UU6.out.below hb); replace UU8 := Lib.hid (UU8.out.below hb); replace ZQ := Lib.hid (blk_below ZQ.out hb); have C5 := Lib.hid (gr_tr C4.out hb); have K5 := Lib.hid (K4.out.below hb); clear hb hw))
          refine ⟨K5.out, ?_⟩
          repeat (refine wpT_firm rfl (fun K hK => ?_); simp only [Keep]; go_simp; refine hK _ ?_; clear hK K)
          refine wpT_chain rfl ?_
          refine wpList_store_row rfl 37 (.tmp 6) (.tmp 43) rfl q #[.int .u8 (uv x0), .int .u8 (uv x1), .bool rf, .bool sc, .int .u16 (uv po), .int .u16 (uv ct), .int .u16 (uv qu), .string (strOf sv), .string (strOf sb), .string (strOf ad)] rfl rfl 37 #[.int .u8 0, .int .u8 0, .bool false, .bool false, .int .u16 0, .int .u16 0, .int .u16 0, .string ⟨#[]⟩, .string ⟨#[]⟩, .string ⟨#[]⟩] ZQ.out (by kernel_rfl) rfl (by simp [Value.oneCell']) ?_
          have ZR2 := Lib.hid (setRow_heap _ _ _ #[.int .u8 (uv x0), .int .u8 (uv x1), .bool rf, .bool sc, .int .u16 (uv po), .int .u16 (uv ct), .int .u16 (uv qu), .string (strOf sv), .string (strOf sb), .string (strOf ad)] _ _ ZQ.out)
          have C6 := Lib.hid (below_setRow C5.out QL.out #[.int .u8 (uv x0), .int .u8 (uv x1), .bool rf, .bool sc, .int .u16 (uv po), .int .u16 (uv ct), .int .u16 (uv qu), .string (strOf sv), .string (strOf sb), .string (strOf ad)])
          have K6 := Lib.hid (K5.out.base (below_setRow (Below.refl _ _) (show V.heap.size ≤ q from QL.out) #[.int .u8 (uv x0), .int .u8 (uv x1), .bool rf, .bool sc, .int .u16 (uv po), .int .u16 (uv ct), .int .u16 (uv qu), .string (strOf sv), .string (strOf sb), .string (strOf ad)]))
          go_wp2
          refine ⟨K6.out, ?_⟩
          unfold wpT
          go_wp2
          go_meet
          exact ⟨q, rfl, QL.out, ZR2.out, C6.out⟩
      · go_wp2
        refine ⟨K1.out.alloc _, ?_⟩
        have ZQ := Lib.hid (heap_alloc_new W1 (.cells #[.int .u8 0, .int .u8 0, .bool false, .bool false, .int .u16 0, .int .u16 0, .int .u16 0, .string ⟨#[]⟩, .string ⟨#[]⟩, .string ⟨#[]⟩] 37))
        have QL := Lib.hid (show V.heap.size ≤ W1.heap.size from C1.out.size)
        obtain ⟨w2, hw2⟩ : ∃ X, X = W1.alloc (.cells #[.int .u8 0, .int .u8 0, .bool false, .bool false, .int .u16 0, .int .u16 0, .int .u16 0, .string ⟨#[]⟩, .string ⟨#[]⟩, .string ⟨#[]⟩] 37) := ⟨_, rfl⟩
        have hb : Below W1.heap.size W1 w2 := (by rw [hw2]; exact gr_alloc _ _)
        rw [← hw2] at ZQ ⊢
        replace VV := Lib.hid (VV.out.below hb)
        replace UU4 := Lib.hid (UU4.out.below hb)
        replace UU6 := Lib.hid (UU6.out.below hb)
        replace UU8 := Lib.hid (UU8.out.below hb)
        have C2 := Lib.hid (gr_tr C1.out hb)
        have K2 := Lib.hid (K1.out.below hb)
        clear hb hw2
        obtain ⟨q, hq⟩ : ∃ q, W1.heap.size = q := ⟨_, rfl⟩
        rw [hq] at ZQ QL ⊢
        clear hq
        refine wpT_chain rfl ?_
        go_wp2_with (go_at_call 40; go_loud (refine (V6.out _ UU6.out).mono ?_; rintro e wz ⟨rfl, rfl⟩))
        refine ⟨K2.out, ?_⟩
        repeat (refine wpT_firm rfl (fun K hK => ?_); simp only [Keep]; go_simp; refine hK _ ?_; clear hK K)
        refine wpT_chain rfl ?_
        go_wp2_with (go_at_call 40; go_loud (refine (V8.out _ UU8.out).mono ?_; rintro e wz ⟨rfl, rfl⟩))
        refine ⟨K2.out, ?_⟩
        repeat (refine wpT_firm rfl (fun K hK => ?_); simp only [Keep]; go_simp; refine hK _ ?_; clear hK K)
        refine wpT_chain rfl ?_
        go_wp2_with (go_at_call 62; go_loud (refine (P1.out _ VV.out).mono ?_; rintro e w3 ⟨rfl, hw⟩; have hb : Below w2.heap.size w2 w3 := (by rw [hw]; exact Below.refl _ _); replace VV := Lib.hid (VV.out.below hb); replace UU4 := Lib.hid (UU4.out.below hb); replace UU6 := Lib.hid (UU6.out.below hb); replace UU8 := Lib.hid (UU8.out.below hb); replace ZQ := Lib.hid (blk_below ZQ.out hb); have C3 := Lib.hid (gr_tr C2.out hb); have K3 := Lib.hid (K2.out.below hb); clear hb hw))
        refine ⟨K3.out, ?_⟩
        refine wpT_chain rfl ?_
        go_wp2_with (go_at_call 63; go_loud (refine (P2.out _ VV.out).mono ?_; rintro e w4 ⟨rfl, hb⟩; replace VV := Lib.hid (VV.out.below hb); replace UU4 := Lib.hid (UU4.out.below hb); replace UU6 := Lib.hid (UU6.out.below hb); replace UU8 := Lib.hid (UU8.out.below hb); replace ZQ := Lib.hid (blk_below ZQ.out hb); have C4 := Lib.hid (gr_tr C3.out hb); have K4 := Lib.hid (K3.out.below hb); clear hb))
        refine ⟨K4.out, ?_⟩
        refine wpT_chain rfl ?_
        go_wp2_with (go_at_call 62; go_loud (refine (P3.out _ VV.out).mono ?_; rintro e w5 ⟨rfl, hw⟩; have hb : Below w4.heap.size w4 w5 := (by rw [hw]; exact Below.refl _ _); replace VV := Lib.hid (VV.out.below hb); replace UU4 := Lib.hid (UU4.out.below hb); replace UU6 := Lib.hid (UU6.out.below hb); replace UU8 := Lib.hid (UU8.out.below hb); replace ZQ := Lib.hid (blk_below ZQ.out hb); have C5 := Lib.hid (gr_tr C4.out hb); have K5 := Lib.hid (K4.out.below hb); clear hb hw))
        refine ⟨K5.out, ?_⟩
        repeat (refine wpT_firm rfl (fun K hK => ?_); simp only [Keep]; go_simp; refine hK _ ?_; clear hK K)
        refine wpT_chain rfl ?_
        refine wpList_store_row rfl 37 (.tmp 6) (.tmp 43) rfl q #[.int .u8 (uv x0), .int .u8 (uv x1), .bool rf, .bool sc, .int .u16 (uv po), .int .u16 (uv ct), .int .u16 (uv qu), .string (strOf sv), .string (strOf sb), .string (strOf ad)] rfl rfl 37 #[.int .u8 0, .int .u8 0, .bool false, .bool false, .int .u16 0, .int .u16 0, .int .u16 0, .string ⟨#[]⟩, .string ⟨#[]⟩, .string ⟨#[]⟩] ZQ.out (by kernel_rfl) rfl (by simp [Value.oneCell']) ?_
        have ZR2 := Lib.hid (setRow_heap _ _ _ #[.int .u8 (uv x0), .int .u8 (uv x1), .bool rf, .bool sc, .int .u16 (uv po), .int .u16 (uv ct), .int .u16 (uv qu), .string (strOf sv), .string (strOf sb), .string (strOf ad)] _ _ ZQ.out)
        have C6 := Lib.hid (below_setRow C5.out QL.out #[.int .u8 (uv x0), .int .u8 (uv x1), .bool rf, .bool sc, .int .u16 (uv po), .int .u16 (uv ct), .int .u16 (uv qu), .string (strOf sv), .string (strOf sb), .string (strOf ad)])
        have K6 := Lib.hid (K5.out.base (below_setRow (Below.refl _ _) (show V.heap.size ≤ q from QL.out) #[.int .u8 (uv x0), .int .u8 (uv x1), .bool rf, .bool sc, .int .u16 (uv po), .int .u16 (uv ct), .int .u16 (uv qu), .string (strOf sv), .string (strOf sb), .string (strOf ad)]))
        go_wp2
        refine ⟨K6.out, ?_⟩
        unfold wpT
        go_wp2
        go_meet
        exact ⟨q, rfl, QL.out, ZR2.out, C6.out⟩
    · go_wp2
      refine ⟨K1.out.alloc _, ?_⟩
      have ZQ := Lib.hid (heap_alloc_new W1 (.cells #[.int .u8 0, .int .u8 0, .bool false, .bool false, .int .u16 0, .int .u16 0, .int .u16 0, .string ⟨#[]⟩, .string ⟨#[]⟩, .string ⟨#[]⟩] 37))
      have QL := Lib.hid (show V.heap.size ≤ W1.heap.size from C1.out.size)
      obtain ⟨w2, hw2⟩ : ∃ X, X = W1.alloc (.cells #[.int .u8 0, .int .u8 0, .bool false, .bool false, .int .u16 0, .int .u16 0, .int .u16 0, .string ⟨#[]⟩, .string ⟨#[]⟩, .string ⟨#[]⟩] 37) := ⟨_, rfl⟩
      have hb : Below W1.heap.size W1 w2 := (by rw [hw2]; exact gr_alloc _ _)
      rw [← hw2] at ZQ ⊢
      replace VV := Lib.hid (VV.out.below hb)
      replace UU4 := Lib.hid (UU4.out.below hb)
      replace UU6 := Lib.hid (UU6.out.below hb)
      replace UU8 := Lib.hid (UU8.out.below hb)
      have C2 := Lib.hid (gr_tr C1.out hb)
      have K2 := Lib.hid (K1.out.below hb)
      clear hb hw2
      obtain ⟨q, hq⟩ : ∃ q, W1.heap.size = q := ⟨_, rfl⟩
      rw [hq] at ZQ QL ⊢
      clear hq
      refine wpT_chain rfl ?_
      go_wp2_with (go_at_call 40; go_loud (refine (V4.out _ UU4.out).mono ?_; rintro e wz ⟨rfl, rfl⟩))
      refine ⟨K2.out, ?_⟩
      repeat (refine wpT_firm rfl (fun K hK => ?_); simp only [Keep]; go_simp; refine hK _ ?_; clear hK K)
      refine wpT_chain rfl ?_
      go_wp2_with (go_at_call 40; go_loud (refine (V6.out _ UU6.out).mono ?_; rintro e wz ⟨rfl, rfl⟩))
      refine ⟨K2.out, ?_⟩
      repeat (refine wpT_firm rfl (fun K hK => ?_); simp only [Keep]; go_simp; refine hK _ ?_; clear hK K)
      refine wpT_chain rfl ?_
      go_wp2_with (go_at_call 40; go_loud (refine (V8.out _ UU8.out).mono ?_; rintro e wz ⟨rfl, rfl⟩))
      refine ⟨K2.out, ?_⟩
      repeat (refine wpT_firm rfl (fun K hK => ?_); simp only [Keep]; go_simp; refine hK _ ?_; clear hK K)
      refine wpT_chain rfl ?_
      go_wp2_with (go_at_call 62; go_loud (refine (P1.out _ VV.out).mono ?_; rintro e w3 ⟨rfl, hw⟩; have hb : Below w2.heap.size w2 w3 := (by rw [hw]; exact Below.refl _ _); replace VV := Lib.hid (VV.out.below hb); replace UU4 := Lib.hid (UU4.out.below hb); replace UU6 := Lib.hid (UU6.out.below hb); replace UU8 := Lib.hid (UU8.out.below hb); replace ZQ := Lib.hid (blk_below ZQ.out hb); have C3 := Lib.hid (gr_tr C2.out hb); have K3 := Lib.hid (K2.out.below hb); clear hb hw))
      refine ⟨K3.out, ?_⟩
      refine wpT_chain rfl ?_
      go_wp2_with (go_at_call 63; go_loud (refine (P2.out _ VV.out).mono ?_; rintro e w4 ⟨rfl, hb⟩; replace VV := Lib.hid (VV.out.below hb); replace UU4 := Lib.hid (UU4.out.below hb); replace UU6 := Lib.hid (UU6.out.below hb); replace UU8 := Lib.hid (UU8.out.below hb); replace ZQ := Lib.hid (blk_below ZQ.out hb); have C4 := Lib.hid (gr_tr C3.out hb); have K4 := Lib.hid (K3.out.below hb); clear hb))
      refine ⟨K4.out, ?_⟩
      refine wpT_chain rfl ?_
      go_wp2_with (go_at_call 62; go_loud (refine (P3.out _ VV.out).mono ?_; rintro e w5 ⟨rfl, hw⟩; have hb : Below w4.heap.size w4 w5 := (by rw [hw]; exact Below.refl _ _); replace VV := Lib.hid (VV.out.below hb); replace UU4 := Lib.hid (UU4.out.below hb); replace UU6 := Lib.hid (UU6.out.below hb); replace UU8 := Lib.hid (UU8.out.below hb); replace ZQ := Lib.hid (blk_below ZQ.out hb); have C5 := Lib.hid (gr_tr C4.out hb); have K5 := Lib.hid (K4.out.below hb); clear hb hw))
      refine ⟨K5.out, ?_⟩
      repeat (refine wpT_firm rfl (fun K hK => ?_); simp only [Keep]; go_simp; refine hK _ ?_; clear hK K)
      refine wpT_chain rfl ?_
      refine wpList_store_row rfl 37 (.tmp 6) (.tmp 43) rfl q #[.int .u8 (uv x0), .int .u8 (uv x1), .bool rf, .bool sc, .int .u16 (uv po), .int .u16 (uv ct), .int .u16 (uv qu), .string (strOf sv), .string (strOf sb), .string (strOf ad)] rfl rfl 37 #[.int .u8 0, .int .u8 0, .bool false, .bool false, .int .u16 0, .int .u16 0, .int .u16 0, .string ⟨#[]⟩, .string ⟨#[]⟩, .string ⟨#[]⟩] ZQ.out (by kernel_rfl) rfl (by simp [Value.oneCell']) ?_
      have ZR2 := Lib.hid (setRow_heap _ _ _ #[.int .u8 (uv x0), .int .u8 (uv x1), .bool rf, .bool sc, .int .u16 (uv po), .int .u16 (uv ct), .int .u16 (uv qu), .string (strOf sv), .string (strOf sb), .string (strOf ad)] _ _ ZQ.out)
      have C6 := Lib.hid (below_setRow C5.out QL.out #[.int .u8 (uv x0), .int .u8 (uv x1), .bool rf, .bool sc, .int .u16 (uv po), .int .u16 (uv ct), .int .u16 (uv qu), .string (strOf sv), .string (strOf sb), .string (strOf ad)])
      have K6 := Lib.hid (K5.out.base (below_setRow (Below.refl _ _) (show V.heap.size ≤ q from QL.out) #[.int .u8 (uv x0), .int .u8 (uv x1), .bool rf, .bool sc, .int .u16 (uv po), .int .u16 (uv ct), .int .u16 (uv qu), .string (strOf sv), .string (strOf sb), .string (strOf ad)]))
      go_wp2
      refine ⟨K6.out, ?_⟩
      unfold wpT
      go_wp2
      go_meet
      exact ⟨q, rfl, QL.out, ZR2.out, C6.out⟩
  case rest =>
    clear f0 f1 f2 f3
    obtain ⟨q, rfl, hq1, hq2, hq3⟩ := hcut
    obtain ⟨w1, hx⟩ : ∃ x, x = wc := ⟨_, rfl⟩
    subst hx
    have QN := Lib.hid (show q ≠ w.heap.size by have := (Array.getElem?_eq_some_iff.1 Z2.out).1; omega)
    have Q1 := Lib.hid hq2
    have D1 := Lib.hid (gr_tr D.out hq3)
    have Y1 := Lib.hid (blk_below Z2.out hq3)
    have VV1 := Lib.hid (VV.out.below hq3)
    clear hq1 hq2 hq3 V4 V6 V8 P1 P2 P3 UU4 UU6 UU8 VV Z2 D hc4 hc6 hc8 e2 e3 e4 e5 e6
    obtain ⟨vb, hvb⟩ : ∃ z, ({ tr := x0, fa := x1, rf := rf, sc := sc, po := po, ct := ct, qu := qu, sv := sv, sb := sb, ad := ad } : Rec).ok = z := ⟨_, rfl⟩
    obtain ⟨BR, hBR⟩ : ∃ z, ({ tr := x0, fa := x1, rf := rf, sc := sc, po := po, ct := ct, qu := qu, sv := sv, sb := sb, ad := ad } : Rec).bytes = z := ⟨_, rfl⟩
    have VAL : Hid (∀ w, Calls Tryz.prog 29 #[.agg #[.int .u8 (uv x0), .int .u8 (uv x1), .bool rf, .bool sc, .int .u16 (uv po), .int .u16 (uv ct), .int .u16 (uv qu), .string (strOf sv), .string (strOf sb), .string (strOf ad)]] w fun e w' => e = .returned (.bool vb) ∧ Below w.heap.size w w') := (have h := fun w => Valid_at ({ tr := x0, fa := x1, rf := rf, sc := sc, po := po, ct := ct, qu := qu, sv := sv, sb := sb, ad := ad } : Rec) vb w FIT.out hvb; Lib.hid h)
    have REC : Hid (vb = true → ∀ w, Calls Tryz.prog 39 #[.agg #[.int .u8 (uv x0), .int .u8 (uv x1), .bool rf, .bool sc, .int .u16 (uv po), .int .u16 (uv ct), .int .u16 (uv qu), .string (strOf sv), .string (strOf sb), .string (strOf ad)]] w fun e w' => ∃ u, e = .returned u ∧ BytesV w' u BR ∧ Below w.heap.size w w') := Lib.hid (fun h w => by
      have hok := hvb.trans h
      have hrec := record_at ({ tr := x0, fa := x1, rf := rf, sc := sc, po := po, ct := ct, qu := qu, sv := sv, sb := sb, ad := ad } : Rec) w hok
      refine Calls.mono hrec ?_
      rintro e w' ⟨u, h1, h2, h3⟩
      refine ⟨u, h1, ?_, h3⟩
      rw [hBR] at h2
      refine BytesV.of_own (l := BR) (base := w.heap.size) (e := 5) ?_
      rw [← hBR, bytes_len hok, hBR]; exact h2)
    have HZ2 := Lib.hid (show (vb && (BR == b)) = Z by rw [← hvb, ← hBR]; exact HZ.out)
    clear hvb hBR HZ FIT
    have q0 : ∀ x, Keep (fun k => k = w.heap.size) w1 x → x.heap[q]? = some (.cells #[.int .u8 (uv x0), .int .u8 (uv x1), .bool rf, .bool sc, .int .u16 (uv po), .int .u16 (uv ct), .int .u16 (uv qu), .string (strOf sv), .string (strOf sb), .string (strOf ad)] 37 (0, 0)) := fun x hx => Keep.blkB hx Q1.out QN.out
    go_upto_region 3 with fail
    cases vb
    · have hz : Z = false := by rw [← HZ2.out]; rfl
      subst hz
      refine wp_region_planW (fun k => k = w.heap.size) [(true, 0), (true, 1), (false, 2), (true, 3), (true, 4), (true, 6), (false, 5), (false, 7), (true, 8), (false, 9), (true, 10)] (by kernel_rfl) (by kernel_rfl) (by intro c a d v w h; cases d <;> exact h) ?_
      intro W1 K1 C1
      refine wpS_load_rowM rfl rfl 37 (.tmp 6) rfl q rfl 37 #[.int .u8 (uv x0), .int .u8 (uv x1), .bool rf, .bool sc, .int .u16 (uv po), .int .u16 (uv ct), .int .u16 (uv qu), .string (strOf sv), .string (strOf sb), .string (strOf ad)] (0, 0) _ q0 Tryz.underlying37 rfl (by kernel_rfl) ?_
      refine wpS_load_rowM rfl rfl 37 (.tmp 6) rfl q rfl 37 #[.int .u8 (uv x0), .int .u8 (uv x1), .bool rf, .bool sc, .int .u16 (uv po), .int .u16 (uv ct), .int .u16 (uv qu), .string (strOf sv), .string (strOf sb), .string (strOf ad)] (0, 0) _ q0 Tryz.underlying37 rfl (by kernel_rfl) ?_
      refine wpS_chain rfl ?_
      go_wp2_with (go_at_call 29; go_loud (refine (VAL.out _).mono ?_; rintro e w2 ⟨rfl, hw⟩; have C2 := Lib.hid (gr_tr C1.out hw); have K2 := Lib.hid (K1.out.below hw); clear hw))
      refine ⟨K2.out, ?_⟩
      (refine wpS_firm rfl (fun K hK => ?_); simp only [Keep]; go_simp; refine hK _ ?_; clear hK K)
      (refine wpS_firm rfl (fun K hK => ?_); simp only [Keep]; go_simp; refine hK _ ?_; clear hK K)
      (refine wpS_firm rfl (fun K hK => ?_); simp only [Keep]; go_simp; refine hK _ ?_; clear hK K)
      refine wpS_chain rfl ?_
      go_wp2
      refine ⟨K2.out, ?_⟩
      refine wpS_chain rfl ?_
      go_wp2
      refine ⟨K2.out, ?_⟩
      (refine wpS_firm rfl (fun K hK => ?_); simp only [Keep]; go_simp; refine hK _ ?_; clear hK K)
      have Y2 := Lib.hid (blk_below Y1.out C2.out)
      refine wpS_chain rfl ?_
      refine wpList_store_row rfl 37 (.tmp 2) (.tmp 44) rfl w.heap.size #[.int .u8 (uv x0), .int .u8 (uv x1), .bool rf, .bool sc, .int .u16 (uv po), .int .u16 (uv ct), .int .u16 (uv qu), .string (strOf sv), .string (strOf sb), .string (strOf ad)] rfl rfl 37 #[.int .u8 0, .int .u8 0, .bool false, .bool false, .int .u16 0, .int .u16 0, .int .u16 0, .string ⟨#[]⟩, .string ⟨#[]⟩, .string ⟨#[]⟩] Y2.out (by kernel_rfl) rfl (by simp [Value.oneCell']) ?_
      have Y3 := Lib.hid (setRow_heap _ _ _ #[.int .u8 (uv x0), .int .u8 (uv x1), .bool rf, .bool sc, .int .u16 (uv po), .int .u16 (uv ct), .int .u16 (uv qu), .string (strOf sv), .string (strOf sb), .string (strOf ad)] _ _ Y2.out)
      have D3 := Lib.hid (below_setRow (gr_tr D1.out C2.out) (Nat.le_refl _) #[.int .u8 (uv x0), .int .u8 (uv x1), .bool rf, .bool sc, .int .u16 (uv po), .int .u16 (uv ct), .int .u16 (uv qu), .string (strOf sv), .string (strOf sb), .string (strOf ad)])
      have K3 := Lib.hid (K2.out.row (g := w.heap.size) rfl #[.int .u8 (uv x0), .int .u8 (uv x1), .bool rf, .bool sc, .int .u16 (uv po), .int .u16 (uv ct), .int .u16 (uv qu), .string (strOf sv), .string (strOf sb), .string (strOf ad)])
      go_wp2
      refine ⟨K3.out, ?_⟩
      (refine wpS_firm rfl (fun K hK => ?_); simp only [Keep]; go_simp; refine hK _ ?_; clear hK K)
      unfold wpS
      go_wp2
      exact bodyPost_ret (results_row_tmp rfl _ _ w.heap.size 37 #[.int .u8 (uv x0), .int .u8 (uv x1), .bool rf, .bool sc, .int .u16 (uv po), .int .u16 (uv ct), .int .u16 (uv qu), .string (strOf sv), .string (strOf sb), .string (strOf ad)] (0, 0) _ rfl Y3.out Tryz.underlying37 rfl (by kernel_rfl)) rfl ⟨rfl, D3.out⟩
    · have RC := Lib.hid (REC.out rfl)
      obtain ⟨z, hz1⟩ : ∃ z, (BR == b) = z := ⟨_, rfl⟩
      have hz : Z = z := by rw [← HZ2.out, hz1]; rfl
      subst hz
      have EQ2 := Lib.hid (fun w u h h' => EQ.out w u BR Z h h' hz1)
      clear hz1 REC EQ HZ2
      refine wp_region_planW (fun k => k = w.heap.size) [(true, 0), (true, 1), (false, 2), (true, 3), (true, 4), (true, 6), (false, 5), (false, 7), (true, 8), (false, 9), (true, 10)] (by kernel_rfl) (by kernel_rfl) (by intro c a d v w h; cases d <;> exact h) ?_
      intro W1 K1 C1
      refine wpS_load_rowM rfl rfl 37 (.tmp 6) rfl q rfl 37 #[.int .u8 (uv x0), .int .u8 (uv x1), .bool rf, .bool sc, .int .u16 (uv po), .int .u16 (uv ct), .int .u16 (uv qu), .string (strOf sv), .string (strOf sb), .string (strOf ad)] (0, 0) _ q0 Tryz.underlying37 rfl (by kernel_rfl) ?_
      refine wpS_load_rowM rfl rfl 37 (.tmp 6) rfl q rfl 37 #[.int .u8 (uv x0), .int .u8 (uv x1), .bool rf, .bool sc, .int .u16 (uv po), .int .u16 (uv ct), .int .u16 (uv qu), .string (strOf sv), .string (strOf sb), .string (strOf ad)] (0, 0) _ q0 Tryz.underlying37 rfl (by kernel_rfl) ?_
      refine wpS_chain rfl ?_
      go_wp2_with (go_at_call 29; go_loud (refine (VAL.out _).mono ?_; rintro e w2 ⟨rfl, hw⟩; have C2 := Lib.hid (gr_tr C1.out hw); have K2 := Lib.hid (K1.out.below hw); clear hw))
      refine ⟨K2.out, ?_⟩
      (refine wpS_firm rfl (fun K hK => ?_); simp only [Keep]; go_simp; refine hK _ ?_; clear hK K)
      refine wpS_load_rowM rfl rfl 37 (.tmp 6) rfl q rfl 37 #[.int .u8 (uv x0), .int .u8 (uv x1), .bool rf, .bool sc, .int .u16 (uv po), .int .u16 (uv ct), .int .u16 (uv qu), .string (strOf sv), .string (strOf sb), .string (strOf ad)] (0, 0) _ q0 Tryz.underlying37 rfl (by kernel_rfl) ?_
      (refine wpS_firm rfl (fun K hK => ?_); simp only [Keep]; go_simp; refine hK _ ?_; clear hK K)
      refine wpS_chain rfl ?_
      go_wp2_with (go_at_call 39; go_loud (refine (RC.out _).mono ?_; rintro e w3 ⟨u3, rfl, hu, hw⟩; have U3 := Lib.hid hu; have C3 := Lib.hid (gr_tr C2.out hw); have K3 := Lib.hid (K2.out.below hw); clear hu hw))
      refine ⟨K3.out, ?_⟩
      refine wpS_chain rfl ?_
      go_wp2_with (go_at_call 64; go_loud (refine (EQ2.out _ u3 U3.out (VV1.out.below C3.out)).mono ?_; rintro e w4 ⟨rfl, rfl⟩))
      refine ⟨K3.out, ?_⟩
      (refine wpS_firm rfl (fun K hK => ?_); simp only [Keep]; go_simp; refine hK _ ?_; clear hK K)
      have Y2 := Lib.hid (blk_below Y1.out C3.out)
      refine wpS_chain rfl ?_
      refine wpList_store_row rfl 37 (.tmp 2) (.tmp 44) rfl w.heap.size #[.int .u8 (uv x0), .int .u8 (uv x1), .bool rf, .bool sc, .int .u16 (uv po), .int .u16 (uv ct), .int .u16 (uv qu), .string (strOf sv), .string (strOf sb), .string (strOf ad)] rfl rfl 37 #[.int .u8 0, .int .u8 0, .bool false, .bool false, .int .u16 0, .int .u16 0, .int .u16 0, .string ⟨#[]⟩, .string ⟨#[]⟩, .string ⟨#[]⟩] Y2.out (by kernel_rfl) rfl (by simp [Value.oneCell']) ?_
      have Y3 := Lib.hid (setRow_heap _ _ _ #[.int .u8 (uv x0), .int .u8 (uv x1), .bool rf, .bool sc, .int .u16 (uv po), .int .u16 (uv ct), .int .u16 (uv qu), .string (strOf sv), .string (strOf sb), .string (strOf ad)] _ _ Y2.out)
      have D3 := Lib.hid (below_setRow (gr_tr D1.out C3.out) (Nat.le_refl _) #[.int .u8 (uv x0), .int .u8 (uv x1), .bool rf, .bool sc, .int .u16 (uv po), .int .u16 (uv ct), .int .u16 (uv qu), .string (strOf sv), .string (strOf sb), .string (strOf ad)])
      have K4 := Lib.hid (K3.out.row (g := w.heap.size) rfl #[.int .u8 (uv x0), .int .u8 (uv x1), .bool rf, .bool sc, .int .u16 (uv po), .int .u16 (uv ct), .int .u16 (uv qu), .string (strOf sv), .string (strOf sb), .string (strOf ad)])
      go_wp2
      refine ⟨K4.out, ?_⟩
      (refine wpS_firm rfl (fun K hK => ?_); simp only [Keep]; go_simp; refine hK _ ?_; clear hK K)
      unfold wpS
      go_wp2
      exact bodyPost_ret (results_row_tmp rfl _ _ w.heap.size 37 #[.int .u8 (uv x0), .int .u8 (uv x1), .bool rf, .bool sc, .int .u16 (uv po), .int .u16 (uv ct), .int .u16 (uv qu), .string (strOf sv), .string (strOf sb), .string (strOf ad)] (0, 0) _ rfl Y3.out Tryz.underlying37 rfl (by kernel_rfl)) rfl ⟨rfl, D3.out⟩
end Go.Proofs.YtjcgdenkmmgmfaaGreatDoor
