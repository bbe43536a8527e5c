/- The reference's DecodeController. Printed by genrctd.py. -/
import Derived.Test.YthnnopjakpjoeaaDoorDecC
namespace Go.Proofs.YthnnopjakpjoeaaDoor
open Go.RowKit Idn
set_option linter.unusedVariables false
set_option linter.unusedSimpArgs false
namespace Idn
theorem stripP_step (p : BitVec 8 → Bool) (l : List (BitVec 8)) (a q : Nat) (y : BitVec 8) (hy : l[a + q]? = some y) : stripP p (cutL l a (q + 1)) = if p y then stripP p (cutL l a q) else cutL l a (q + 1) := by
  have e : cutL l a (q + 1) = cutL l a q ++ [y] := by
    unfold cutL
    have h2 : (l.drop a)[q]? = some y := by rw [List.getElem?_drop]; exact hy
    obtain ⟨h3, h4⟩ := List.getElem?_eq_some_iff.1 h2
    rw [List.take_succ_eq_append_getElem h3, h4]
  rw [e]
  unfold stripP
  rw [List.reverse_append, List.reverse_singleton, List.singleton_append, List.dropWhile_cons]
  cases p y
  · simp
  · simp
theorem stripP_nil (p : BitVec 8 → Bool) (l : List (BitVec 8)) (a : Nat) : stripP p (cutL l a 0) = [] := by unfold cutL; rw [List.take_zero]; rfl
end Idn
set_option maxHeartbeats 1600000 in
set_option maxRecDepth 20000 in
theorem rtrim_at (g o N c : Nat) (l : List (BitVec 8)) (a n : Nat) (ch : BitVec 8) (p : BitVec 8 → Bool) (m : List (BitVec 8)) (w : World) (hp : ∀ y, p y = (uv y == uv ch)) (hv : BytesV w (.slice (some ⟨g, o, none⟩) N c) l) (ha : a + n ≤ l.length) (h1 : 1 ≤ n) (hm : stripP p (cutL l a n) = m) :
    Calls Tryd.prog 79 #[.slice (some ⟨g, o, none⟩) N c, .int .i64 a, .int .i64 n, .int .u8 (uv ch)] w fun e w' => e = .returned (.string (strOf m)) ∧ w = w' := by
  have V := Lib.hid hv
  obtain ⟨a', c', e, -, e1, e2, hrow⟩ := hv
  injection e with e3 e4 e5
  subst e3 e4 e5
  have hm1 : (a : Int) + n ≤ 9223372036854775807 := by omega
  have hm2 : (l.length : Int) ≤ 9223372036854775807 := by omega
  have hm3 : (a : Int) + n ≤ l.length := by omega
  have ROW := Lib.hid hrow; have HM := Lib.hid hm; have HA := Lib.hid ha; have HP := Lib.hid hp; have E2 := Lib.hid e2; have E1 := Lib.hid e1
  clear hrow hm ha hp e1 e2
  go_enter Tryd.func79, Tryd.ntmps79
  go_wp2
  go_loop [2] (fun s => ∃ j : Nat, j ≤ n ∧ s = .int .i64 (j : Int) ∧ Hid (stripP p (cutL l a j) = m)) (fun s => (intOf s).toNat)
  case atStart => exact ⟨n, by omega, rfl, HM.out⟩
  case round =>
    obtain ⟨j, hj, rfl, hz⟩ := hrel
    have fin : ∀ k, k ≤ n → stripP p (cutL l a k) = m → stripP p (cutL l a k) = cutL l a k → ∃ v, (∀ w', (Instr.slice 22 (.slice (some ⟨g, o, none⟩) l.length c) (some (.int .i64 a)) (some (.int .i64 ((a : Int) + k))) none).run Tryd.prog w' = .ok v w') ∧ (convert 22 9 v).run Tryd.prog w = .ok (.string (strOf m)) w := by
      intro k hk h1 h2
      have hl := HA.out
      refine ⟨_, fun w' => run_cutL g o l.length c a ((a : Int) + k) (by omega) (by have := E1.out; omega) (by have := E1.out; omega) E2.out w', ?_⟩
      rw [show ((a : Int) + k - a).toNat = k by omega, ← h1, h2]
      exact str_at (V.out.cutN a k (by omega))
    cases j with
    | zero =>
      have e : ((0 : Nat) : Int) = 0 := rfl
      obtain ⟨v, hv1, hv2⟩ := fin 0 (by omega) hz.out (by rw [stripP_nil]; unfold cutL; rw [List.take_zero])
      have e0 : ((0 : Nat) : Int) = 0 := rfl
      rw [e0, Int.add_zero] at hv1
      rw [e]
      clear e e0 fin
      obtain ⟨va, vn, vc, rfl⟩ : ∃ a n c, v = .slice a n c := by
        have := hv1 w
        rw [run_cutL g o l.length c a a (by omega) (by have := E1.out; have := HA.out; omega) (by have := E1.out; have := HA.out; omega) E2.out w] at this
        injection this with h1 h2
        exact ⟨_, _, _, h1.symm⟩
      go_wp2
      go_ret
      exact ⟨rfl, rfl⟩
    | succ q =>
      obtain ⟨y, hy⟩ : ∃ y, l[a + q]? = some y := ⟨l[a + q]'(by have := HA.out; omega), List.getElem?_eq_getElem _⟩
      obtain ⟨b, o', e0, hcell⟩ := ROW.out.at (i := a + q) (v := .int .u8 (uv y)) (by rw [by8_get, hy]; rfl)
      cases e0
      have hst := stripP_step p l a q y hy
      rw [HP.out y] at hst
      obtain ⟨t, ht⟩ : ∃ t, (uv y == uv ch) = t := ⟨_, rfl⟩
      rw [ht] at hst
      have HST := Lib.hid hst
      have hj' : (q : Int) + 1 ≤ n := by omega
      have hw1 : IntKind.i64.wrap ((a : Int) + ((q : Int) + 1)) = (a : Int) + ((q : Int) + 1) := IntWalk.i64_in _ (by omega)
      have hw2 : IntKind.i64.wrap ((a : Int) + ((q : Int) + 1) - 1) = ((a + q : Nat) : Int) := by rw [IntWalk.i64_in _ (by omega)]; omega
      have hw3 : IntKind.i64.wrap ((q : Int) + 1 - 1) = (q : Int) := by rw [IntWalk.i64_in _ (by omega)]; omega
      have hgt : decide ((q : Int) + 1 > 0) = true := decide_eq_true (by omega)
      have e : ((q + 1 : Nat) : Int) = (q : Int) + 1 := by omega
      clear hy hst
      cases t
      · obtain ⟨v, hv1, hv2⟩ := fin (q + 1) (by omega) hz.out (by rw [HST.out]; simp)
        rw [e] at hv1 ⊢
        clear e fin
        obtain ⟨va, vn, vc, rfl⟩ : ∃ a n c, v = .slice a n c := by
          have := hv1 w
          rw [run_cutL g o l.length c a ((a : Int) + ((q : Int) + 1)) (by omega) (by have := E1.out; have := HA.out; omega) (by have := E1.out; have := HA.out; omega) E2.out w] at this
          injection this with h1 h2
          exact ⟨_, _, _, h1.symm⟩
        go_wp2
        go_ret
        exact ⟨rfl, rfl⟩
      · have hz2 := hz.out
        rw [HST.out, if_pos rfl] at hz2
        have HZ2 := Lib.hid hz2
        rw [e]
        clear e fin hz2
        go_wp2
        go_round
        case rel => exact ⟨q, by omega, by first | rfl | go_num, HZ2.out⟩
        case measure => simp [intOf]; try omega
set_option maxRecDepth 100000 in
theorem ctlZ_lit : (Ctl.cells ctlZ).toArray = #[.int .u16 0, .int .u16 0, .int .u8 0, .int .u16 0, .int .u32 0, .int .u16 0, .int .u8 0, .int .u8 0, .int .u8 0, .int .u8 0, .int .u8 0, .int .u8 0, .int .u16 0, .int .u8 0, .int .u8 0, .int .u16 0, .int .u32 0, .int .u16 0, .int .u8 0, .int .u16 0, .int .u16 0, .int .u32 0, .string ⟨#[]⟩, .string ⟨#[]⟩, .string ⟨#[]⟩, .string ⟨#[]⟩] := by rfl
theorem is32_uv (y : BitVec 8) : is32 y = (uv y == uv 32#8) := by unfold is32; rw [uv_beq]
theorem is0_uv (y : BitVec 8) : is0 y = (uv y == uv 0#8) := by unfold is0; rw [uv_beq]
set_option maxHeartbeats 12800000 in
set_option maxRecDepth 100000 in
theorem rDecode_Ctl (l : List (BitVec 8)) (bv : Value) (w : World) (y : Ctl) (e : Int) (hb : BytesV w bv l) (hl : l.length ≤ 140737488355328) (hd : decV (rdC is32 is0) ctlOk ctlB ctlZ l = (y, e)) :
    Calls Tryd.prog 24 #[bv] w fun r w' => r = .returned (.tuple #[.agg (Ctl.cells y).toArray, .int .i64 e]) ∧ Below w.heap.size w w' := by
  have HD := Lib.hid hd; have BV0 := Lib.hid hb
  have SZZ := Lib.hid (show (Ctl.cells ctlZ).toArray.size = 26 by rw [ctlZ_lit]; rfl)
  obtain ⟨W, hW⟩ : ∃ W, W = (w.alloc (.cells (Ctl.cells ctlZ).toArray 38)).alloc (.cells (Ctl.cells ctlZ).toArray 38) := ⟨_, rfl⟩
  have D := Lib.hid (show Below w.heap.size w W by rw [hW]; exact gr_tr (gr_alloc w _) (gr_alloc _ _))
  have XA := Lib.hid (show W.heap[w.heap.size]? = some (.cells (Ctl.cells ctlZ).toArray 38 (0, 0)) by rw [hW]; exact blk_below (heap_alloc_new w _) (gr_alloc _ _))
  have XB := Lib.hid (show W.heap[w.heap.size + 1]? = some (.cells (Ctl.cells ctlZ).toArray 38 (0, 0)) by rw [hW]; have := heap_alloc_new (w.alloc (.cells (Ctl.cells ctlZ).toArray 38)) (.cells (Ctl.cells ctlZ).toArray 38); rwa [World.size_alloc] at this)
  rw [ctlZ_lit] at hW
  have HW := Lib.hid hW
  clear hW hd hb
  by_cases h4 : l.length = 4096
  · obtain ⟨g, o, cv, rfl⟩ := BV0.out.shapeAt (by omega)
    have hb4 := BV0.out
    rw [h4] at hb4 ⊢
    replace BV0 := Lib.hid hb4
    clear hb4
    have HL4 := Lib.hid h4
    have ec : (if l.length < 4096 then (4 : Int) else if 4096 < l.length then 5 else 0) = 0 := by rw [if_neg (by omega), if_neg (by omega)]
    have EC := Lib.hid ec
    have GL := Lib.hid (slice_lt BV0.out (by omega))
    clear h4 ec
    have BV := Lib.hid (BV0.out.below D.out)
    have OFF := Lib.hid (show Off (fun b => b = w.heap.size + 1) (.slice (some ⟨g, o, none⟩) 4096 cv) from fun g' o' n' c' e h => by have := GL.out g' o' n' c' e; omega)
    obtain ⟨g0, hg0⟩ : ∃ v, Wire.getV (cutL l 0 2) = v := ⟨_, rfl⟩
    have G0 := Lib.hid hg0; clear hg0
    obtain ⟨g1, hg1⟩ : ∃ v, Wire.getV (cutL l 2 2) = v := ⟨_, rfl⟩
    have G1 := Lib.hid hg1; clear hg1
    obtain ⟨g2, hg2⟩ : ∃ v, Wire.getV (cutL l 77 1) = v := ⟨_, rfl⟩
    have G2 := Lib.hid hg2; clear hg2
    obtain ⟨g3, hg3⟩ : ∃ v, Wire.getV (cutL l 78 2) = v := ⟨_, rfl⟩
    have G3 := Lib.hid hg3; clear hg3
    obtain ⟨g4, hg4⟩ : ∃ v, Wire.getV (cutL l 80 4) = v := ⟨_, rfl⟩
    have G4 := Lib.hid hg4; clear hg4
    obtain ⟨g5, hg5⟩ : ∃ v, Wire.getV (cutL l 256 2) = v := ⟨_, rfl⟩
    have G5 := Lib.hid hg5; clear hg5
    obtain ⟨g6, hg6⟩ : ∃ v, Wire.getV (cutL l 258 1) = v := ⟨_, rfl⟩
    have G6 := Lib.hid hg6; clear hg6
    obtain ⟨g7, hg7⟩ : ∃ v, Wire.getV (cutL l 259 1) = v := ⟨_, rfl⟩
    have G7 := Lib.hid hg7; clear hg7
    obtain ⟨g8, hg8⟩ : ∃ v, Wire.getV (cutL l 260 1) = v := ⟨_, rfl⟩
    have G8 := Lib.hid hg8; clear hg8
    obtain ⟨g9, hg9⟩ : ∃ v, Wire.getV (cutL l 261 1) = v := ⟨_, rfl⟩
    have G9 := Lib.hid hg9; clear hg9
    obtain ⟨g10, hg10⟩ : ∃ v, Wire.getV (cutL l 262 1) = v := ⟨_, rfl⟩
    have G10 := Lib.hid hg10; clear hg10
    obtain ⟨g11, hg11⟩ : ∃ v, Wire.getV (cutL l 263 1) = v := ⟨_, rfl⟩
    have G11 := Lib.hid hg11; clear hg11
    obtain ⟨g12, hg12⟩ : ∃ v, Wire.getV (cutL l 320 2) = v := ⟨_, rfl⟩
    have G12 := Lib.hid hg12; clear hg12
    obtain ⟨g13, hg13⟩ : ∃ v, Wire.getV (cutL l 512 1) = v := ⟨_, rfl⟩
    have G13 := Lib.hid hg13; clear hg13
    obtain ⟨g14, hg14⟩ : ∃ v, Wire.getV (cutL l 513 1) = v := ⟨_, rfl⟩
    have G14 := Lib.hid hg14; clear hg14
    obtain ⟨g15, hg15⟩ : ∃ v, Wire.getV (cutL l 514 2) = v := ⟨_, rfl⟩
    have G15 := Lib.hid hg15; clear hg15
    obtain ⟨g16, hg16⟩ : ∃ v, Wire.getV (cutL l 516 4) = v := ⟨_, rfl⟩
    have G16 := Lib.hid hg16; clear hg16
    obtain ⟨g17, hg17⟩ : ∃ v, Wire.getV (cutL l 520 2) = v := ⟨_, rfl⟩
    have G17 := Lib.hid hg17; clear hg17
    obtain ⟨g18, hg18⟩ : ∃ v, Wire.getV (cutL l 525 1) = v := ⟨_, rfl⟩
    have G18 := Lib.hid hg18; clear hg18
    obtain ⟨g19, hg19⟩ : ∃ v, Wire.getV (cutL l 526 2) = v := ⟨_, rfl⟩
    have G19 := Lib.hid hg19; clear hg19
    obtain ⟨g20, hg20⟩ : ∃ v, Wire.getV (cutL l 528 2) = v := ⟨_, rfl⟩
    have G20 := Lib.hid hg20; clear hg20
    obtain ⟨g21, hg21⟩ : ∃ v, Wire.getV (cutL l 536 4) = v := ⟨_, rfl⟩
    have G21 := Lib.hid hg21; clear hg21
    obtain ⟨m0, hm0⟩ : ∃ v, stripP is32 (cutL l 4 20) = v := ⟨_, rfl⟩
    have M0 := Lib.hid hm0; clear hm0
    obtain ⟨m1, hm1⟩ : ∃ v, stripP is32 (cutL l 24 40) = v := ⟨_, rfl⟩
    have M1 := Lib.hid hm1; clear hm1
    obtain ⟨m2, hm2⟩ : ∃ v, stripP is32 (cutL l 64 8) = v := ⟨_, rfl⟩
    have M2 := Lib.hid hm2; clear hm2
    obtain ⟨m3, hm3⟩ : ∃ v, stripP is0 (cutL l 768 256) = v := ⟨_, rfl⟩
    have M3 := Lib.hid hm3; clear hm3
    obtain ⟨C0, hC0⟩ : ∃ c, c = (Ctl.cells ctlZ).toArray := ⟨_, rfl⟩
    have E0 := Lib.hid hC0
    have X0 := Lib.hid (show W.heap[w.heap.size + 1]? = some (.cells C0 38 (0, 0)) by rw [hC0]; exact XB.out)
    have SZ0 := Lib.hid (show C0.size = 26 by rw [hC0]; exact SZZ.out)
    have K0 := Lib.hid (Chg.refl (fun b => b = w.heap.size + 1) W)
    clear hC0
    have hcap : (l.length : Int) ≤ 9223372036854775807 := by omega
    go_enter Tryd.func24, Tryd.ntmps24
    go_upto_region 2 with (fail)
    first
      | rw [← HW.out]
      | (show Code.wp _ _ _ _ ((w.alloc (.cells (Ctl.cells ctlZ).toArray 38)).alloc (.cells (Ctl.cells ctlZ).toArray 38)); rw [← HW.out])
    go_upto_region 5 with (go_at_call 77; go_loud (refine (check_any _ l 0 _ BV.out EC.out).mono ?_; rintro r w' ⟨rfl, rfl⟩))
    go_upto_region 5 with (fail)
    go_cut [] (fun wx => wx.heap[w.heap.size + 1]? = some (.cells (Array.setIfInBounds C0 0 (.int .u16 (uv (g0.setWidth 16)))) 38 (0, 0)) ∧ Chg (fun b => b = w.heap.size + 1) W wx)
    case first =>
      have cX := (cell_of_row _ _ 0 _ _ _ X0.out).trans (Array.getElem?_eq_getElem (by rw [SZ0.out]; decide))
      have fX := frozen_of_row _ _ 0 _ _ X0.out
      go_wp2_with (go_at_call 78; go_loud (refine (rget_at g o _ cv l 0 2 g0 _ (BV.out.chg K0.out OFF.out) (by have := HL4.out; omega) (by decide) (by decide) G0.out).mono ?_; rintro r w' ⟨rfl, rfl⟩))
      go_meet
      exact ⟨heap_setCell_same _ _ _ _ _ _ X0.out, K0.out.trans (Chg.setCell (B := fun b => b = w.heap.size + 1) (p := ⟨w.heap.size + 1, 0, none⟩) _ rfl _)⟩
    obtain ⟨hx, hc⟩ := hcut
    obtain ⟨w1, e1⟩ : ∃ z, z = wc := ⟨_, rfl⟩
    subst e1
    obtain ⟨C1, hC⟩ : ∃ c, Array.setIfInBounds C0 0 (.int .u16 (uv (g0.setWidth 16))) = c := ⟨_, rfl⟩
    rw [hC] at hx
    have X1 := Lib.hid hx; have K1 := Lib.hid hc
    have SZ1 := Lib.hid (show C1.size = 26 by rw [← hC, Array.size_setIfInBounds]; exact SZ0.out)
    have E1 := Lib.hid hC
    clear hx hc hC
    go_upto_region 6 with (fail)
    go_cut [] (fun wx => wx.heap[w.heap.size + 1]? = some (.cells (Array.setIfInBounds C1 1 (.int .u16 (uv (g1.setWidth 16)))) 38 (0, 0)) ∧ Chg (fun b => b = w.heap.size + 1) W wx)
    case first =>
      have cX := (cell_of_row _ _ 1 _ _ _ X1.out).trans (Array.getElem?_eq_getElem (by rw [SZ1.out]; decide))
      have fX := frozen_of_row _ _ 1 _ _ X1.out
      go_wp2_with (go_at_call 78; go_loud (refine (rget_at g o _ cv l 2 2 g1 _ (BV.out.chg K1.out OFF.out) (by have := HL4.out; omega) (by decide) (by decide) G1.out).mono ?_; rintro r w' ⟨rfl, rfl⟩))
      go_meet
      exact ⟨heap_setCell_same _ _ _ _ _ _ X1.out, K1.out.trans (Chg.setCell (B := fun b => b = w.heap.size + 1) (p := ⟨w.heap.size + 1, 1, none⟩) _ rfl _)⟩
    obtain ⟨hx, hc⟩ := hcut
    obtain ⟨w2, e2⟩ : ∃ z, z = wc := ⟨_, rfl⟩
    subst e2
    obtain ⟨C2, hC⟩ : ∃ c, Array.setIfInBounds C1 1 (.int .u16 (uv (g1.setWidth 16))) = c := ⟨_, rfl⟩
    rw [hC] at hx
    have X2 := Lib.hid hx; have K2 := Lib.hid hc
    have SZ2 := Lib.hid (show C2.size = 26 by rw [← hC, Array.size_setIfInBounds]; exact SZ1.out)
    have E2 := Lib.hid hC
    clear hx hc hC
    go_upto_region 7 with (fail)
    go_cut [] (fun wx => wx.heap[w.heap.size + 1]? = some (.cells (Array.setIfInBounds C2 2 (.int .u8 (uv (g2.setWidth 8)))) 38 (0, 0)) ∧ Chg (fun b => b = w.heap.size + 1) W wx)
    case first =>
      have cX := (cell_of_row _ _ 2 _ _ _ X2.out).trans (Array.getElem?_eq_getElem (by rw [SZ2.out]; decide))
      have fX := frozen_of_row _ _ 2 _ _ X2.out
      go_wp2_with (go_at_call 78; go_loud (refine (rget_at g o _ cv l 77 1 g2 _ (BV.out.chg K2.out OFF.out) (by have := HL4.out; omega) (by decide) (by decide) G2.out).mono ?_; rintro r w' ⟨rfl, rfl⟩))
      go_meet
      exact ⟨heap_setCell_same _ _ _ _ _ _ X2.out, K2.out.trans (Chg.setCell (B := fun b => b = w.heap.size + 1) (p := ⟨w.heap.size + 1, 2, none⟩) _ rfl _)⟩
    obtain ⟨hx, hc⟩ := hcut
    obtain ⟨w3, e3⟩ : ∃ z, z = wc := ⟨_, rfl⟩
    subst e3
    obtain ⟨C3, hC⟩ : ∃ c, Array.setIfInBounds C2 2 (.int .u8 (uv (g2.setWidth 8))) = c := ⟨_, rfl⟩
    rw [hC] at hx
    have X3 := Lib.hid hx; have K3 := Lib.hid hc
    have SZ3 := Lib.hid (show C3.size = 26 by rw [← hC, Array.size_setIfInBounds]; exact SZ2.out)
    have E3 := Lib.hid hC
    clear hx hc hC
    go_upto_region 8 with (fail)
    go_cut [] (fun wx => wx.heap[w.heap.size + 1]? = some (.cells (Array.setIfInBounds C3 3 (.int .u16 (uv (g3.setWidth 16)))) 38 (0, 0)) ∧ Chg (fun b => b = w.heap.size + 1) W wx)
    case first =>
      have cX := (cell_of_row _ _ 3 _ _ _ X3.out).trans (Array.getElem?_eq_getElem (by rw [SZ3.out]; decide))
      have fX := frozen_of_row _ _ 3 _ _ X3.out
      go_wp2_with (go_at_call 78; go_loud (refine (rget_at g o _ cv l 78 2 g3 _ (BV.out.chg K3.out OFF.out) (by have := HL4.out; omega) (by decide) (by decide) G3.out).mono ?_; rintro r w' ⟨rfl, rfl⟩))
      go_meet
      exact ⟨heap_setCell_same _ _ _ _ _ _ X3.out, K3.out.trans (Chg.setCell (B := fun b => b = w.heap.size + 1) (p := ⟨w.heap.size + 1, 3, none⟩) _ rfl _)⟩
    obtain ⟨hx, hc⟩ := hcut
    obtain ⟨w4, e4⟩ : ∃ z, z = wc := ⟨_, rfl⟩
    subst e4
    obtain ⟨C4, hC⟩ : ∃ c, Array.setIfInBounds C3 3 (.int .u16 (uv (g3.setWidth 16))) = c := ⟨_, rfl⟩
    rw [hC] at hx
    have X4 := Lib.hid hx; have K4 := Lib.hid hc
    have SZ4 := Lib.hid (show C4.size = 26 by rw [← hC, Array.size_setIfInBounds]; exact SZ3.out)
    have E4 := Lib.hid hC
    clear hx hc hC
    go_upto_region 9 with (fail)
    go_cut [] (fun wx => wx.heap[w.heap.size + 1]? = some (.cells (Array.setIfInBounds C4 4 (.int .u32 (uv (g4.setWidth 32)))) 38 (0, 0)) ∧ Chg (fun b => b = w.heap.size + 1) W wx)
    case first =>
      have cX := (cell_of_row _ _ 4 _ _ _ X4.out).trans (Array.getElem?_eq_getElem (by rw [SZ4.out]; decide))
      have fX := frozen_of_row _ _ 4 _ _ X4.out
      go_wp2_with (go_at_call 78; go_loud (refine (rget_at g o _ cv l 80 4 g4 _ (BV.out.chg K4.out OFF.out) (by have := HL4.out; omega) (by decide) (by decide) G4.out).mono ?_; rintro r w' ⟨rfl, rfl⟩))
      go_meet
      exact ⟨heap_setCell_same _ _ _ _ _ _ X4.out, K4.out.trans (Chg.setCell (B := fun b => b = w.heap.size + 1) (p := ⟨w.heap.size + 1, 4, none⟩) _ rfl _)⟩
    obtain ⟨hx, hc⟩ := hcut
    obtain ⟨w5, e5⟩ : ∃ z, z = wc := ⟨_, rfl⟩
    subst e5
    obtain ⟨C5, hC⟩ : ∃ c, Array.setIfInBounds C4 4 (.int .u32 (uv (g4.setWidth 32))) = c := ⟨_, rfl⟩
    rw [hC] at hx
    have X5 := Lib.hid hx; have K5 := Lib.hid hc
    have SZ5 := Lib.hid (show C5.size = 26 by rw [← hC, Array.size_setIfInBounds]; exact SZ4.out)
    have E5 := Lib.hid hC
    clear hx hc hC
    go_upto_region 10 with (fail)
    go_cut [] (fun wx => wx.heap[w.heap.size + 1]? = some (.cells (Array.setIfInBounds C5 5 (.int .u16 (uv (g5.setWidth 16)))) 38 (0, 0)) ∧ Chg (fun b => b = w.heap.size + 1) W wx)
    case first =>
      have cX := (cell_of_row _ _ 5 _ _ _ X5.out).trans (Array.getElem?_eq_getElem (by rw [SZ5.out]; decide))
      have fX := frozen_of_row _ _ 5 _ _ X5.out
      go_wp2_with (go_at_call 78; go_loud (refine (rget_at g o _ cv l 256 2 g5 _ (BV.out.chg K5.out OFF.out) (by have := HL4.out; omega) (by decide) (by decide) G5.out).mono ?_; rintro r w' ⟨rfl, rfl⟩))
      go_meet
      exact ⟨heap_setCell_same _ _ _ _ _ _ X5.out, K5.out.trans (Chg.setCell (B := fun b => b = w.heap.size + 1) (p := ⟨w.heap.size + 1, 5, none⟩) _ rfl _)⟩
    obtain ⟨hx, hc⟩ := hcut
    obtain ⟨w6, e6⟩ : ∃ z, z = wc := ⟨_, rfl⟩
    subst e6
    obtain ⟨C6, hC⟩ : ∃ c, Array.setIfInBounds C5 5 (.int .u16 (uv (g5.setWidth 16))) = c := ⟨_, rfl⟩
    rw [hC] at hx
    have X6 := Lib.hid hx; have K6 := Lib.hid hc
    have SZ6 := Lib.hid (show C6.size = 26 by rw [← hC, Array.size_setIfInBounds]; exact SZ5.out)
    have E6 := Lib.hid hC
    clear hx hc hC
    go_upto_region 11 with (fail)
    go_cut [] (fun wx => wx.heap[w.heap.size + 1]? = some (.cells (Array.setIfInBounds C6 6 (.int .u8 (uv (g6.setWidth 8)))) 38 (0, 0)) ∧ Chg (fun b => b = w.heap.size + 1) W wx)
    case first =>
      have cX := (cell_of_row _ _ 6 _ _ _ X6.out).trans (Array.getElem?_eq_getElem (by rw [SZ6.out]; decide))
      have fX := frozen_of_row _ _ 6 _ _ X6.out
      go_wp2_with (go_at_call 78; go_loud (refine (rget_at g o _ cv l 258 1 g6 _ (BV.out.chg K6.out OFF.out) (by have := HL4.out; omega) (by decide) (by decide) G6.out).mono ?_; rintro r w' ⟨rfl, rfl⟩))
      go_meet
      exact ⟨heap_setCell_same _ _ _ _ _ _ X6.out, K6.out.trans (Chg.setCell (B := fun b => b = w.heap.size + 1) (p := ⟨w.heap.size + 1, 6, none⟩) _ rfl _)⟩
    obtain ⟨hx, hc⟩ := hcut
    obtain ⟨w7, e7⟩ : ∃ z, z = wc := ⟨_, rfl⟩
    subst e7
    obtain ⟨C7, hC⟩ : ∃ c, Array.setIfInBounds C6 6 (.int .u8 (uv (g6.setWidth 8))) = c := ⟨_, rfl⟩
    rw [hC] at hx
    have X7 := Lib.hid hx; have K7 := Lib.hid hc
    have SZ7 := Lib.hid (show C7.size = 26 by rw [← hC, Array.size_setIfInBounds]; exact SZ6.out)
    have E7 := Lib.hid hC
    clear hx hc hC
    go_upto_region 12 with (fail)
    go_cut [] (fun wx => wx.heap[w.heap.size + 1]? = some (.cells (Array.setIfInBounds C7 7 (.int .u8 (uv (g7.setWidth 8)))) 38 (0, 0)) ∧ Chg (fun b => b = w.heap.size + 1) W wx)
    case first =>
      have cX := (cell_of_row _ _ 7 _ _ _ X7.out).trans (Array.getElem?_eq_getElem (by rw [SZ7.out]; decide))
      have fX := frozen_of_row _ _ 7 _ _ X7.out
      go_wp2_with (go_at_call 78; go_loud (refine (rget_at g o _ cv l 259 1 g7 _ (BV.out.chg K7.out OFF.out) (by have := HL4.out; omega) (by decide) (by decide) G7.out).mono ?_; rintro r w' ⟨rfl, rfl⟩))
      go_meet
      exact ⟨heap_setCell_same _ _ _ _ _ _ X7.out, K7.out.trans (Chg.setCell (B := fun b => b = w.heap.size + 1) (p := ⟨w.heap.size + 1, 7, none⟩) _ rfl _)⟩
    obtain ⟨hx, hc⟩ := hcut
    obtain ⟨w8, e8⟩ : ∃ z, z = wc := ⟨_, rfl⟩
    subst e8
    obtain ⟨C8, hC⟩ : ∃ c, Array.setIfInBounds C7 7 (.int .u8 (uv (g7.setWidth 8))) = c := ⟨_, rfl⟩
    rw [hC] at hx
    have X8 := Lib.hid hx; have K8 := Lib.hid hc
    have SZ8 := Lib.hid (show C8.size = 26 by rw [← hC, Array.size_setIfInBounds]; exact SZ7.out)
    have E8 := Lib.hid hC
    clear hx hc hC
    go_upto_region 13 with (fail)
    go_cut [] (fun wx => wx.heap[w.heap.size + 1]? = some (.cells (Array.setIfInBounds C8 8 (.int .u8 (uv (g8.setWidth 8)))) 38 (0, 0)) ∧ Chg (fun b => b = w.heap.size + 1) W wx)
    case first =>
      have cX := (cell_of_row _ _ 8 _ _ _ X8.out).trans (Array.getElem?_eq_getElem (by rw [SZ8.out]; decide))
      have fX := frozen_of_row _ _ 8 _ _ X8.out
      go_wp2_with (go_at_call 78; go_loud (refine (rget_at g o _ cv l 260 1 g8 _ (BV.out.chg K8.out OFF.out) (by have := HL4.out; omega) (by decide) (by decide) G8.out).mono ?_; rintro r w' ⟨rfl, rfl⟩))
      go_meet
      exact ⟨heap_setCell_same _ _ _ _ _ _ X8.out, K8.out.trans (Chg.setCell (B := fun b => b = w.heap.size + 1) (p := ⟨w.heap.size + 1, 8, none⟩) _ rfl _)⟩
    obtain ⟨hx, hc⟩ := hcut
    obtain ⟨w9, e9⟩ : ∃ z, z = wc := ⟨_, rfl⟩
    subst e9
    obtain ⟨C9, hC⟩ : ∃ c, Array.setIfInBounds C8 8 (.int .u8 (uv (g8.setWidth 8))) = c := ⟨_, rfl⟩
    rw [hC] at hx
    have X9 := Lib.hid hx; have K9 := Lib.hid hc
    have SZ9 := Lib.hid (show C9.size = 26 by rw [← hC, Array.size_setIfInBounds]; exact SZ8.out)
    have E9 := Lib.hid hC
    clear hx hc hC
    go_upto_region 14 with (fail)
    go_cut [] (fun wx => wx.heap[w.heap.size + 1]? = some (.cells (Array.setIfInBounds C9 9 (.int .u8 (uv (g9.setWidth 8)))) 38 (0, 0)) ∧ Chg (fun b => b = w.heap.size + 1) W wx)
    case first =>
      have cX := (cell_of_row _ _ 9 _ _ _ X9.out).trans (Array.getElem?_eq_getElem (by rw [SZ9.out]; decide))
      have fX := frozen_of_row _ _ 9 _ _ X9.out
      go_wp2_with (go_at_call 78; go_loud (refine (rget_at g o _ cv l 261 1 g9 _ (BV.out.chg K9.out OFF.out) (by have := HL4.out; omega) (by decide) (by decide) G9.out).mono ?_; rintro r w' ⟨rfl, rfl⟩))
      go_meet
      exact ⟨heap_setCell_same _ _ _ _ _ _ X9.out, K9.out.trans (Chg.setCell (B := fun b => b = w.heap.size + 1) (p := ⟨w.heap.size + 1, 9, none⟩) _ rfl _)⟩
    obtain ⟨hx, hc⟩ := hcut
    obtain ⟨w10, e10⟩ : ∃ z, z = wc := ⟨_, rfl⟩
    subst e10
    obtain ⟨C10, hC⟩ : ∃ c, Array.setIfInBounds C9 9 (.int .u8 (uv (g9.setWidth 8))) = c := ⟨_, rfl⟩
    rw [hC] at hx
    have X10 := Lib.hid hx; have K10 := Lib.hid hc
    have SZ10 := Lib.hid (show C10.size = 26 by rw [← hC, Array.size_setIfInBounds]; exact SZ9.out)
    have E10 := Lib.hid hC
    clear hx hc hC
    go_upto_region 15 with (fail)
    go_cut [] (fun wx => wx.heap[w.heap.size + 1]? = some (.cells (Array.setIfInBounds C10 10 (.int .u8 (uv (g10.setWidth 8)))) 38 (0, 0)) ∧ Chg (fun b => b = w.heap.size + 1) W wx)
    case first =>
      have cX := (cell_of_row _ _ 10 _ _ _ X10.out).trans (Array.getElem?_eq_getElem (by rw [SZ10.out]; decide))
      have fX := frozen_of_row _ _ 10 _ _ X10.out
      go_wp2_with (go_at_call 78; go_loud (refine (rget_at g o _ cv l 262 1 g10 _ (BV.out.chg K10.out OFF.out) (by have := HL4.out; omega) (by decide) (by decide) G10.out).mono ?_; rintro r w' ⟨rfl, rfl⟩))
      go_meet
      exact ⟨heap_setCell_same _ _ _ _ _ _ X10.out, K10.out.trans (Chg.setCell (B := fun b => b = w.heap.size + 1) (p := ⟨w.heap.size + 1, 10, none⟩) _ rfl _)⟩
    obtain ⟨hx, hc⟩ := hcut
    obtain ⟨w11, e11⟩ : ∃ z, z = wc := ⟨_, rfl⟩
    subst e11
    obtain ⟨C11, hC⟩ : ∃ c, Array.setIfInBounds C10 10 (.int .u8 (uv (g10.setWidth 8))) = c := ⟨_, rfl⟩
    rw [hC] at hx
    have X11 := Lib.hid hx; have K11 := Lib.hid hc
    have SZ11 := Lib.hid (show C11.size = 26 by rw [← hC, Array.size_setIfInBounds]; exact SZ10.out)
    have E11 := Lib.hid hC
    clear hx hc hC
    go_upto_region 16 with (fail)
    go_cut [] (fun wx => wx.heap[w.heap.size + 1]? = some (.cells (Array.setIfInBounds C11 11 (.int .u8 (uv (g11.setWidth 8)))) 38 (0, 0)) ∧ Chg (fun b => b = w.heap.size + 1) W wx)
    case first =>
      have cX := (cell_of_row _ _ 11 _ _ _ X11.out).trans (Array.getElem?_eq_getElem (by rw [SZ11.out]; decide))
      have fX := frozen_of_row _ _ 11 _ _ X11.out
      go_wp2_with (go_at_call 78; go_loud (refine (rget_at g o _ cv l 263 1 g11 _ (BV.out.chg K11.out OFF.out) (by have := HL4.out; omega) (by decide) (by decide) G11.out).mono ?_; rintro r w' ⟨rfl, rfl⟩))
      go_meet
      exact ⟨heap_setCell_same _ _ _ _ _ _ X11.out, K11.out.trans (Chg.setCell (B := fun b => b = w.heap.size + 1) (p := ⟨w.heap.size + 1, 11, none⟩) _ rfl _)⟩
    obtain ⟨hx, hc⟩ := hcut
    obtain ⟨w12, e12⟩ : ∃ z, z = wc := ⟨_, rfl⟩
    subst e12
    obtain ⟨C12, hC⟩ : ∃ c, Array.setIfInBounds C11 11 (.int .u8 (uv (g11.setWidth 8))) = c := ⟨_, rfl⟩
    rw [hC] at hx
    have X12 := Lib.hid hx; have K12 := Lib.hid hc
    have SZ12 := Lib.hid (show C12.size = 26 by rw [← hC, Array.size_setIfInBounds]; exact SZ11.out)
    have E12 := Lib.hid hC
    clear hx hc hC
    go_upto_region 17 with (fail)
    go_cut [] (fun wx => wx.heap[w.heap.size + 1]? = some (.cells (Array.setIfInBounds C12 12 (.int .u16 (uv (g12.setWidth 16)))) 38 (0, 0)) ∧ Chg (fun b => b = w.heap.size + 1) W wx)
    case first =>
      have cX := (cell_of_row _ _ 12 _ _ _ X12.out).trans (Array.getElem?_eq_getElem (by rw [SZ12.out]; decide))
      have fX := frozen_of_row _ _ 12 _ _ X12.out
      go_wp2_with (go_at_call 78; go_loud (refine (rget_at g o _ cv l 320 2 g12 _ (BV.out.chg K12.out OFF.out) (by have := HL4.out; omega) (by decide) (by decide) G12.out).mono ?_; rintro r w' ⟨rfl, rfl⟩))
      go_meet
      exact ⟨heap_setCell_same _ _ _ _ _ _ X12.out, K12.out.trans (Chg.setCell (B := fun b => b = w.heap.size + 1) (p := ⟨w.heap.size + 1, 12, none⟩) _ rfl _)⟩
    obtain ⟨hx, hc⟩ := hcut
    obtain ⟨w13, e13⟩ : ∃ z, z = wc := ⟨_, rfl⟩
    subst e13
    obtain ⟨C13, hC⟩ : ∃ c, Array.setIfInBounds C12 12 (.int .u16 (uv (g12.setWidth 16))) = c := ⟨_, rfl⟩
    rw [hC] at hx
    have X13 := Lib.hid hx; have K13 := Lib.hid hc
    have SZ13 := Lib.hid (show C13.size = 26 by rw [← hC, Array.size_setIfInBounds]; exact SZ12.out)
    have E13 := Lib.hid hC
    clear hx hc hC
    go_upto_region 18 with (fail)
    go_cut [] (fun wx => wx.heap[w.heap.size + 1]? = some (.cells (Array.setIfInBounds C13 13 (.int .u8 (uv (g13.setWidth 8)))) 38 (0, 0)) ∧ Chg (fun b => b = w.heap.size + 1) W wx)
    case first =>
      have cX := (cell_of_row _ _ 13 _ _ _ X13.out).trans (Array.getElem?_eq_getElem (by rw [SZ13.out]; decide))
      have fX := frozen_of_row _ _ 13 _ _ X13.out
      go_wp2_with (go_at_call 78; go_loud (refine (rget_at g o _ cv l 512 1 g13 _ (BV.out.chg K13.out OFF.out) (by have := HL4.out; omega) (by decide) (by decide) G13.out).mono ?_; rintro r w' ⟨rfl, rfl⟩))
      go_meet
      exact ⟨heap_setCell_same _ _ _ _ _ _ X13.out, K13.out.trans (Chg.setCell (B := fun b => b = w.heap.size + 1) (p := ⟨w.heap.size + 1, 13, none⟩) _ rfl _)⟩
    obtain ⟨hx, hc⟩ := hcut
    obtain ⟨w14, e14⟩ : ∃ z, z = wc := ⟨_, rfl⟩
    subst e14
    obtain ⟨C14, hC⟩ : ∃ c, Array.setIfInBounds C13 13 (.int .u8 (uv (g13.setWidth 8))) = c := ⟨_, rfl⟩
    rw [hC] at hx
    have X14 := Lib.hid hx; have K14 := Lib.hid hc
    have SZ14 := Lib.hid (show C14.size = 26 by rw [← hC, Array.size_setIfInBounds]; exact SZ13.out)
    have E14 := Lib.hid hC
    clear hx hc hC
    go_upto_region 19 with (fail)
    go_cut [] (fun wx => wx.heap[w.heap.size + 1]? = some (.cells (Array.setIfInBounds C14 14 (.int .u8 (uv (g14.setWidth 8)))) 38 (0, 0)) ∧ Chg (fun b => b = w.heap.size + 1) W wx)
    case first =>
      have cX := (cell_of_row _ _ 14 _ _ _ X14.out).trans (Array.getElem?_eq_getElem (by rw [SZ14.out]; decide))
      have fX := frozen_of_row _ _ 14 _ _ X14.out
      go_wp2_with (go_at_call 78; go_loud (refine (rget_at g o _ cv l 513 1 g14 _ (BV.out.chg K14.out OFF.out) (by have := HL4.out; omega) (by decide) (by decide) G14.out).mono ?_; rintro r w' ⟨rfl, rfl⟩))
      go_meet
      exact ⟨heap_setCell_same _ _ _ _ _ _ X14.out, K14.out.trans (Chg.setCell (B := fun b => b = w.heap.size + 1) (p := ⟨w.heap.size + 1, 14, none⟩) _ rfl _)⟩
    obtain ⟨hx, hc⟩ := hcut
    obtain ⟨w15, e15⟩ : ∃ z, z = wc := ⟨_, rfl⟩
    subst e15
    obtain ⟨C15, hC⟩ : ∃ c, Array.setIfInBounds C14 14 (.int .u8 (uv (g14.setWidth 8))) = c := ⟨_, rfl⟩
    rw [hC] at hx
    have X15 := Lib.hid hx; have K15 := Lib.hid hc
    have SZ15 := Lib.hid (show C15.size = 26 by rw [← hC, Array.size_setIfInBounds]; exact SZ14.out)
    have E15 := Lib.hid hC
    clear hx hc hC
    go_upto_region 20 with (fail)
    go_cut [] (fun wx => wx.heap[w.heap.size + 1]? = some (.cells (Array.setIfInBounds C15 15 (.int .u16 (uv (g15.setWidth 16)))) 38 (0, 0)) ∧ Chg (fun b => b = w.heap.size + 1) W wx)
    case first =>
      have cX := (cell_of_row _ _ 15 _ _ _ X15.out).trans (Array.getElem?_eq_getElem (by rw [SZ15.out]; decide))
      have fX := frozen_of_row _ _ 15 _ _ X15.out
      go_wp2_with (go_at_call 78; go_loud (refine (rget_at g o _ cv l 514 2 g15 _ (BV.out.chg K15.out OFF.out) (by have := HL4.out; omega) (by decide) (by decide) G15.out).mono ?_; rintro r w' ⟨rfl, rfl⟩))
      go_meet
      exact ⟨heap_setCell_same _ _ _ _ _ _ X15.out, K15.out.trans (Chg.setCell (B := fun b => b = w.heap.size + 1) (p := ⟨w.heap.size + 1, 15, none⟩) _ rfl _)⟩
    obtain ⟨hx, hc⟩ := hcut
    obtain ⟨w16, e16⟩ : ∃ z, z = wc := ⟨_, rfl⟩
    subst e16
    obtain ⟨C16, hC⟩ : ∃ c, Array.setIfInBounds C15 15 (.int .u16 (uv (g15.setWidth 16))) = c := ⟨_, rfl⟩
    rw [hC] at hx
    have X16 := Lib.hid hx; have K16 := Lib.hid hc
    have SZ16 := Lib.hid (show C16.size = 26 by rw [← hC, Array.size_setIfInBounds]; exact SZ15.out)
    have E16 := Lib.hid hC
    clear hx hc hC
    go_upto_region 21 with (fail)
    go_cut [] (fun wx => wx.heap[w.heap.size + 1]? = some (.cells (Array.setIfInBounds C16 16 (.int .u32 (uv (g16.setWidth 32)))) 38 (0, 0)) ∧ Chg (fun b => b = w.heap.size + 1) W wx)
    case first =>
      have cX := (cell_of_row _ _ 16 _ _ _ X16.out).trans (Array.getElem?_eq_getElem (by rw [SZ16.out]; decide))
      have fX := frozen_of_row _ _ 16 _ _ X16.out
      go_wp2_with (go_at_call 78; go_loud (refine (rget_at g o _ cv l 516 4 g16 _ (BV.out.chg K16.out OFF.out) (by have := HL4.out; omega) (by decide) (by decide) G16.out).mono ?_; rintro r w' ⟨rfl, rfl⟩))
      go_meet
      exact ⟨heap_setCell_same _ _ _ _ _ _ X16.out, K16.out.trans (Chg.setCell (B := fun b => b = w.heap.size + 1) (p := ⟨w.heap.size + 1, 16, none⟩) _ rfl _)⟩
    obtain ⟨hx, hc⟩ := hcut
    obtain ⟨w17, e17⟩ : ∃ z, z = wc := ⟨_, rfl⟩
    subst e17
    obtain ⟨C17, hC⟩ : ∃ c, Array.setIfInBounds C16 16 (.int .u32 (uv (g16.setWidth 32))) = c := ⟨_, rfl⟩
    rw [hC] at hx
    have X17 := Lib.hid hx; have K17 := Lib.hid hc
    have SZ17 := Lib.hid (show C17.size = 26 by rw [← hC, Array.size_setIfInBounds]; exact SZ16.out)
    have E17 := Lib.hid hC
    clear hx hc hC
    go_upto_region 22 with (fail)
    go_cut [] (fun wx => wx.heap[w.heap.size + 1]? = some (.cells (Array.setIfInBounds C17 17 (.int .u16 (uv (g17.setWidth 16)))) 38 (0, 0)) ∧ Chg (fun b => b = w.heap.size + 1) W wx)
    case first =>
      have cX := (cell_of_row _ _ 17 _ _ _ X17.out).trans (Array.getElem?_eq_getElem (by rw [SZ17.out]; decide))
      have fX := frozen_of_row _ _ 17 _ _ X17.out
      go_wp2_with (go_at_call 78; go_loud (refine (rget_at g o _ cv l 520 2 g17 _ (BV.out.chg K17.out OFF.out) (by have := HL4.out; omega) (by decide) (by decide) G17.out).mono ?_; rintro r w' ⟨rfl, rfl⟩))
      go_meet
      exact ⟨heap_setCell_same _ _ _ _ _ _ X17.out, K17.out.trans (Chg.setCell (B := fun b => b = w.heap.size + 1) (p := ⟨w.heap.size + 1, 17, none⟩) _ rfl _)⟩
    obtain ⟨hx, hc⟩ := hcut
    obtain ⟨w18, e18⟩ : ∃ z, z = wc := ⟨_, rfl⟩
    subst e18
    obtain ⟨C18, hC⟩ : ∃ c, Array.setIfInBounds C17 17 (.int .u16 (uv (g17.setWidth 16))) = c := ⟨_, rfl⟩
    rw [hC] at hx
    have X18 := Lib.hid hx; have K18 := Lib.hid hc
    have SZ18 := Lib.hid (show C18.size = 26 by rw [← hC, Array.size_setIfInBounds]; exact SZ17.out)
    have E18 := Lib.hid hC
    clear hx hc hC
    go_upto_region 23 with (fail)
    go_cut [] (fun wx => wx.heap[w.heap.size + 1]? = some (.cells (Array.setIfInBounds C18 18 (.int .u8 (uv (g18.setWidth 8)))) 38 (0, 0)) ∧ Chg (fun b => b = w.heap.size + 1) W wx)
    case first =>
      have cX := (cell_of_row _ _ 18 _ _ _ X18.out).trans (Array.getElem?_eq_getElem (by rw [SZ18.out]; decide))
      have fX := frozen_of_row _ _ 18 _ _ X18.out
      go_wp2_with (go_at_call 78; go_loud (refine (rget_at g o _ cv l 525 1 g18 _ (BV.out.chg K18.out OFF.out) (by have := HL4.out; omega) (by decide) (by decide) G18.out).mono ?_; rintro r w' ⟨rfl, rfl⟩))
      go_meet
      exact ⟨heap_setCell_same _ _ _ _ _ _ X18.out, K18.out.trans (Chg.setCell (B := fun b => b = w.heap.size + 1) (p := ⟨w.heap.size + 1, 18, none⟩) _ rfl _)⟩
    obtain ⟨hx, hc⟩ := hcut
    obtain ⟨w19, e19⟩ : ∃ z, z = wc := ⟨_, rfl⟩
    subst e19
    obtain ⟨C19, hC⟩ : ∃ c, Array.setIfInBounds C18 18 (.int .u8 (uv (g18.setWidth 8))) = c := ⟨_, rfl⟩
    rw [hC] at hx
    have X19 := Lib.hid hx; have K19 := Lib.hid hc
    have SZ19 := Lib.hid (show C19.size = 26 by rw [← hC, Array.size_setIfInBounds]; exact SZ18.out)
    have E19 := Lib.hid hC
    clear hx hc hC
    go_upto_region 24 with (fail)
    go_cut [] (fun wx => wx.heap[w.heap.size + 1]? = some (.cells (Array.setIfInBounds C19 19 (.int .u16 (uv (g19.setWidth 16)))) 38 (0, 0)) ∧ Chg (fun b => b = w.heap.size + 1) W wx)
    case first =>
      have cX := (cell_of_row _ _ 19 _ _ _ X19.out).trans (Array.getElem?_eq_getElem (by rw [SZ19.out]; decide))
      have fX := frozen_of_row _ _ 19 _ _ X19.out
      go_wp2_with (go_at_call 78; go_loud (refine (rget_at g o _ cv l 526 2 g19 _ (BV.out.chg K19.out OFF.out) (by have := HL4.out; omega) (by decide) (by decide) G19.out).mono ?_; rintro r w' ⟨rfl, rfl⟩))
      go_meet
      exact ⟨heap_setCell_same _ _ _ _ _ _ X19.out, K19.out.trans (Chg.setCell (B := fun b => b = w.heap.size + 1) (p := ⟨w.heap.size + 1, 19, none⟩) _ rfl _)⟩
    obtain ⟨hx, hc⟩ := hcut
    obtain ⟨w20, e20⟩ : ∃ z, z = wc := ⟨_, rfl⟩
    subst e20
    obtain ⟨C20, hC⟩ : ∃ c, Array.setIfInBounds C19 19 (.int .u16 (uv (g19.setWidth 16))) = c := ⟨_, rfl⟩
    rw [hC] at hx
    have X20 := Lib.hid hx; have K20 := Lib.hid hc
    have SZ20 := Lib.hid (show C20.size = 26 by rw [← hC, Array.size_setIfInBounds]; exact SZ19.out)
    have E20 := Lib.hid hC
    clear hx hc hC
    go_upto_region 25 with (fail)
    go_cut [] (fun wx => wx.heap[w.heap.size + 1]? = some (.cells (Array.setIfInBounds C20 20 (.int .u16 (uv (g20.setWidth 16)))) 38 (0, 0)) ∧ Chg (fun b => b = w.heap.size + 1) W wx)
    case first =>
      have cX := (cell_of_row _ _ 20 _ _ _ X20.out).trans (Array.getElem?_eq_getElem (by rw [SZ20.out]; decide))
      have fX := frozen_of_row _ _ 20 _ _ X20.out
      go_wp2_with (go_at_call 78; go_loud (refine (rget_at g o _ cv l 528 2 g20 _ (BV.out.chg K20.out OFF.out) (by have := HL4.out; omega) (by decide) (by decide) G20.out).mono ?_; rintro r w' ⟨rfl, rfl⟩))
      go_meet
      exact ⟨heap_setCell_same _ _ _ _ _ _ X20.out, K20.out.trans (Chg.setCell (B := fun b => b = w.heap.size + 1) (p := ⟨w.heap.size + 1, 20, none⟩) _ rfl _)⟩
    obtain ⟨hx, hc⟩ := hcut
    obtain ⟨w21, e21⟩ : ∃ z, z = wc := ⟨_, rfl⟩
    subst e21
    obtain ⟨C21, hC⟩ : ∃ c, Array.setIfInBounds C20 20 (.int .u16 (uv (g20.setWidth 16))) = c := ⟨_, rfl⟩
    rw [hC] at hx
    have X21 := Lib.hid hx; have K21 := Lib.hid hc
    have SZ21 := Lib.hid (show C21.size = 26 by rw [← hC, Array.size_setIfInBounds]; exact SZ20.out)
    have E21 := Lib.hid hC
    clear hx hc hC
    go_upto_region 26 with (fail)
    go_cut [] (fun wx => wx.heap[w.heap.size + 1]? = some (.cells (Array.setIfInBounds C21 21 (.int .u32 (uv (g21.setWidth 32)))) 38 (0, 0)) ∧ Chg (fun b => b = w.heap.size + 1) W wx)
    case first =>
      have cX := (cell_of_row _ _ 21 _ _ _ X21.out).trans (Array.getElem?_eq_getElem (by rw [SZ21.out]; decide))
      have fX := frozen_of_row _ _ 21 _ _ X21.out
      go_wp2_with (go_at_call 78; go_loud (refine (rget_at g o _ cv l 536 4 g21 _ (BV.out.chg K21.out OFF.out) (by have := HL4.out; omega) (by decide) (by decide) G21.out).mono ?_; rintro r w' ⟨rfl, rfl⟩))
      go_meet
      exact ⟨heap_setCell_same _ _ _ _ _ _ X21.out, K21.out.trans (Chg.setCell (B := fun b => b = w.heap.size + 1) (p := ⟨w.heap.size + 1, 21, none⟩) _ rfl _)⟩
    obtain ⟨hx, hc⟩ := hcut
    obtain ⟨w22, e22⟩ : ∃ z, z = wc := ⟨_, rfl⟩
    subst e22
    obtain ⟨C22, hC⟩ : ∃ c, Array.setIfInBounds C21 21 (.int .u32 (uv (g21.setWidth 32))) = c := ⟨_, rfl⟩
    rw [hC] at hx
    have X22 := Lib.hid hx; have K22 := Lib.hid hc
    have SZ22 := Lib.hid (show C22.size = 26 by rw [← hC, Array.size_setIfInBounds]; exact SZ21.out)
    have E22 := Lib.hid hC
    clear hx hc hC
    go_upto_region 27 with (fail)
    go_cut [] (fun wx => wx.heap[w.heap.size + 1]? = some (.cells ((((C22.setIfInBounds 22 (.string (strOf m0))).setIfInBounds 23 (.string (strOf m1))).setIfInBounds 24 (.string (strOf m2))).setIfInBounds 25 (.string (strOf m3))) 38 (0, 0)) ∧ Chg (fun b => b = w.heap.size + 1) W wx)
    case first =>
      have BVx := Lib.hid (BV.out.chg K22.out OFF.out)
      have cX22 := (cell_of_row _ _ 22 _ _ _ X22.out).trans (Array.getElem?_eq_getElem (by rw [SZ22.out]; decide))
      have fX22 := frozen_of_row _ _ 22 _ _ X22.out
      have cX23 := (cell_of_row _ _ 23 _ _ _ X22.out).trans (Array.getElem?_eq_getElem (by rw [SZ22.out]; decide))
      have fX23 := frozen_of_row _ _ 23 _ _ X22.out
      have cX24 := (cell_of_row _ _ 24 _ _ _ X22.out).trans (Array.getElem?_eq_getElem (by rw [SZ22.out]; decide))
      have fX24 := frozen_of_row _ _ 24 _ _ X22.out
      have cX25 := (cell_of_row _ _ 25 _ _ _ X22.out).trans (Array.getElem?_eq_getElem (by rw [SZ22.out]; decide))
      have fX25 := frozen_of_row _ _ 25 _ _ X22.out
      have TR0 := Lib.hid (show Calls Tryd.prog 79 #[.slice (some ⟨g, o, none⟩) 4096 cv, .int .i64 4, .int .i64 20, .int .u8 32] w22 (fun e w' => e = .returned (.string (strOf m0)) ∧ w22 = w') from rtrim_at g o _ cv l 4 20 32#8 is32 m0 _ (fun y => is32_uv y) BVx.out (by have := HL4.out; omega) (by decide) M0.out)
      have TR1 := Lib.hid (show Calls Tryd.prog 79 #[.slice (some ⟨g, o, none⟩) 4096 cv, .int .i64 24, .int .i64 40, .int .u8 32] w22 (fun e w' => e = .returned (.string (strOf m1)) ∧ w22 = w') from rtrim_at g o _ cv l 24 40 32#8 is32 m1 _ (fun y => is32_uv y) BVx.out (by have := HL4.out; omega) (by decide) M1.out)
      have TR2 := Lib.hid (show Calls Tryd.prog 79 #[.slice (some ⟨g, o, none⟩) 4096 cv, .int .i64 64, .int .i64 8, .int .u8 32] w22 (fun e w' => e = .returned (.string (strOf m2)) ∧ w22 = w') from rtrim_at g o _ cv l 64 8 32#8 is32 m2 _ (fun y => is32_uv y) BVx.out (by have := HL4.out; omega) (by decide) M2.out)
      have TR3 := Lib.hid (show Calls Tryd.prog 79 #[.slice (some ⟨g, o, none⟩) 4096 cv, .int .i64 768, .int .i64 256, .int .u8 0] w22 (fun e w' => e = .returned (.string (strOf m3)) ∧ w22 = w') from rtrim_at g o _ cv l 768 256 0#8 is0 m3 _ (fun y => is0_uv y) BVx.out (by have := HL4.out; omega) (by decide) M3.out)
      go_wp2_with (go_at_call 79; go_loud (first | (with_reducible refine TR0.out.mono ?_; rintro r w' ⟨rfl, rfl⟩) | (with_reducible refine TR1.out.mono ?_; rintro r w' ⟨rfl, rfl⟩) | (with_reducible refine TR2.out.mono ?_; rintro r w' ⟨rfl, rfl⟩) | (with_reducible refine TR3.out.mono ?_; rintro r w' ⟨rfl, rfl⟩)))
      go_meet
      refine ⟨?_, (((K22.out.trans (Chg.setCell (B := fun b => b = w.heap.size + 1) (p := ⟨w.heap.size + 1, 22, none⟩) _ rfl _)).trans (Chg.setCell (B := fun b => b = w.heap.size + 1) (p := ⟨w.heap.size + 1, 23, none⟩) _ rfl _)).trans (Chg.setCell (B := fun b => b = w.heap.size + 1) (p := ⟨w.heap.size + 1, 24, none⟩) _ rfl _)).trans (Chg.setCell (B := fun b => b = w.heap.size + 1) (p := ⟨w.heap.size + 1, 25, none⟩) _ rfl _)⟩
      exact heap_setCell_same _ _ _ _ _ _ (heap_setCell_same _ _ _ _ _ _ (heap_setCell_same _ _ _ _ _ _ (heap_setCell_same _ _ _ _ _ _ X22.out)))
    obtain ⟨hx, hc⟩ := hcut
    obtain ⟨wB, eB⟩ : ∃ z, z = wc := ⟨_, rfl⟩
    subst eB
    have hcells : (((C22.setIfInBounds 22 (.string (strOf m0))).setIfInBounds 23 (.string (strOf m1))).setIfInBounds 24 (.string (strOf m2))).setIfInBounds 25 (.string (strOf m3)) = (Ctl.cells (rdC is32 is0 l)).toArray := by
      rw [← E22.out, ← E21.out, ← E20.out, ← E19.out, ← E18.out, ← E17.out, ← E16.out, ← E15.out, ← E14.out, ← E13.out, ← E12.out, ← E11.out, ← E10.out, ← E9.out, ← E8.out, ← E7.out, ← E6.out, ← E5.out, ← E4.out, ← E3.out, ← E2.out, ← E1.out, E0.out]
      unfold rdC
      rw [G0.out, G1.out, G2.out, G3.out, G4.out, G5.out, G6.out, G7.out, G8.out, G9.out, G10.out, G11.out, G12.out, G13.out, G14.out, G15.out, G16.out, G17.out, G18.out, G19.out, G20.out, G21.out, M0.out, M1.out, M2.out, M3.out]
      simp only [Ctl.cells, List.setIfInBounds_toArray, List.set_cons_zero, List.set_cons_succ]
    rw [hcells] at hx
    clear hcells
    obtain ⟨x, hxx⟩ : ∃ x, rdC is32 is0 l = x := ⟨_, rfl⟩
    have HG := Lib.hid (show ctlGood x by rw [← hxx]; exact rdC_good _ _ l)
    rw [hxx] at hx
    have HX := Lib.hid hxx; have XC := Lib.hid hx; have CB := Lib.hid hc
    have XSZ := Lib.hid (show (Ctl.cells x).toArray.size = 26 by rfl)
    clear hx hc hxx
    have BVB := Lib.hid (BV.out.chg CB.out OFF.out)
    have AB := Lib.hid (CB.out.blk XA.out (by omega))
    have DB := Lib.hid (CB.out.fresh D.out (fun k h => by omega))
    obtain ⟨bo, hbo⟩ : ∃ b, ctlOk x = b := ⟨_, rfl⟩
    have HO := Lib.hid hbo; clear hbo
    cases bo
    · go_wp2_with (first
        | (refine wpList_load_row rfl 38 (.tmp 4) rfl (w.heap.size + 1) rfl 38 (Ctl.cells x).toArray (0, 0) _ XC.out Tryd.underlying38 rfl (by rw [XSZ.out]; kernel_rfl) ?_)
        | (go_at_call 21; go_loud (refine (rEncC_no x _ HO.out HG.out).mono ?_; rintro r w2 ⟨rfl, hw⟩; have A2 := Lib.hid (blk_below AB.out hw); have D2 := Lib.hid (gr_tr DB.out hw); clear hw))
        | (refine wpList_store_row rfl 38 (.tmp 2) (.tmp 128) rfl w.heap.size (Ctl.cells ctlZ).toArray rfl rfl 38 _ A2.out (by rw [SZZ.out]; kernel_rfl) rfl (Ctl.cells_one _) ?_))
      obtain ⟨e1, e2⟩ : y = ctlZ ∧ e = 6 := by
        have h := HD.out
        unfold decV at h
        rw [if_neg (by have := HL4.out; omega), if_neg (by have := HL4.out; omega), HX.out, HO.out] at h
        simp at h
        exact ⟨h.1.symm, h.2.symm⟩
      rw [e1, e2]
      exact bodyPost_ret (results_row_tmp rfl _ _ w.heap.size 38 (Ctl.cells ctlZ).toArray (0, 0) _ rfl (setRow_heap _ _ _ _ _ _ A2.out) Tryd.underlying38 rfl (by rw [SZZ.out]; kernel_rfl)) rfl ⟨rfl, below_setRow D2.out (Nat.le_refl _) _⟩
    · obtain ⟨bq, hbq⟩ : ∃ b, (ctlB x == l) = b := ⟨_, rfl⟩
      have HQ := Lib.hid hbq; clear hbq
      go_upto_region 29 with (first
        | (refine wpList_load_row rfl 38 (.tmp 4) rfl (w.heap.size + 1) rfl 38 (Ctl.cells x).toArray (0, 0) _ XC.out Tryd.underlying38 rfl (by rw [XSZ.out]; kernel_rfl) ?_)
        | (go_at_call 21; go_loud (refine (rEncC_ok x _ HO.out HG.out).mono ?_; rintro r w2 ⟨eg, rfl, ho, hw⟩; have U := Lib.hid ho.bytes; have BV2 := Lib.hid (BVB.out.below hw); have A2 := Lib.hid (blk_below AB.out hw); have X2 := Lib.hid (blk_below XC.out hw); have D2 := Lib.hid (gr_tr DB.out hw); clear ho hw)))
      have h1 := str_at U.out
      have h2 := str_at BV2.out
      have h3 : ((strOf (ctlB x)).toList == (strOf l).toList) = bq := by rw [strOf_beq]; exact HQ.out
      have h4 : ((strOf (ctlB x)).toList != (strOf l).toList) = !bq := by rw [bne, h3]
      cases bq
      · go_wp2_with (refine wpList_store_row rfl 38 (.tmp 2) (.tmp 128) rfl w.heap.size (Ctl.cells ctlZ).toArray rfl rfl 38 _ A2.out (by rw [SZZ.out]; kernel_rfl) rfl (Ctl.cells_one _) ?_)
        obtain ⟨e1, e2⟩ : y = ctlZ ∧ e = 6 := by
          have h := HD.out
          unfold decV at h
          rw [if_neg (by have := HL4.out; omega), if_neg (by have := HL4.out; omega), HX.out, HO.out, HQ.out] at h
          simp at h
          exact ⟨h.1.symm, h.2.symm⟩
        rw [e1, e2]
        exact bodyPost_ret (results_row_tmp rfl _ _ w.heap.size 38 (Ctl.cells ctlZ).toArray (0, 0) _ rfl (setRow_heap _ _ _ _ _ _ A2.out) Tryd.underlying38 rfl (by rw [SZZ.out]; kernel_rfl)) rfl ⟨rfl, below_setRow D2.out (Nat.le_refl _) _⟩
      · go_wp2_with (first
          | (refine wpList_load_row rfl 38 (.tmp 4) rfl (w.heap.size + 1) rfl 38 (Ctl.cells x).toArray (0, 0) _ X2.out Tryd.underlying38 rfl (by rw [XSZ.out]; kernel_rfl) ?_)
          | (refine wpList_store_row rfl 38 (.tmp 2) (.tmp 129) rfl w.heap.size (Ctl.cells x).toArray rfl rfl 38 _ A2.out (by rw [XSZ.out]; kernel_rfl) (by rw [XSZ.out, SZZ.out]) (Ctl.cells_one _) ?_))
        obtain ⟨e1, e2⟩ : y = x ∧ e = 0 := by
          have h := HD.out
          unfold decV at h
          rw [if_neg (by have := HL4.out; omega), if_neg (by have := HL4.out; omega), HX.out, HO.out, HQ.out] at h
          simp at h
          exact ⟨h.1.symm, h.2.symm⟩
        rw [e1, e2]
        exact bodyPost_ret (results_row_tmp rfl _ _ w.heap.size 38 (Ctl.cells x).toArray (0, 0) _ rfl (setRow_heap _ _ _ _ _ _ A2.out) Tryd.underlying38 rfl (by rw [XSZ.out]; kernel_rfl)) rfl ⟨rfl, below_setRow D2.out (Nat.le_refl _) _⟩
  · by_cases p1 : l.length < 4096
    · have ec : (if l.length < 4096 then (4 : Int) else if 4096 < l.length then 5 else 0) = 4 := by rw [if_pos p1]
      have EC := Lib.hid ec; clear ec
      go_enter Tryd.func24, Tryd.ntmps24
      go_upto_region 2 with (fail)
      first
        | rw [← HW.out]
        | (show Code.wp _ _ _ _ ((w.alloc (.cells (Ctl.cells ctlZ).toArray 38)).alloc (.cells (Ctl.cells ctlZ).toArray 38)); rw [← HW.out])
      go_wp2_with (first
        | (go_at_call 77; go_loud (refine (check_any _ l 4 _ (BV0.out.below D.out) EC.out).mono ?_; rintro r w' ⟨rfl, rfl⟩))
        | (refine wpList_load_row rfl 38 (.tmp 4) rfl (w.heap.size + 1) rfl 38 _ (0, 0) _ XB.out Tryd.underlying38 rfl (by rw [SZZ.out]; kernel_rfl) ?_)
        | (refine wpList_store_row rfl 38 (.tmp 2) (.tmp 12) rfl w.heap.size (Ctl.cells ctlZ).toArray rfl rfl 38 _ XA.out (by rw [SZZ.out]; kernel_rfl) rfl (Ctl.cells_one _) ?_))
      obtain ⟨e1, e2⟩ : y = ctlZ ∧ e = 4 := by
        have h := HD.out
        unfold decV at h
        rw [if_pos p1] at h
        simp at h
        exact ⟨h.1.symm, h.2.symm⟩
      rw [e1, e2]
      exact bodyPost_ret (results_row_tmp rfl _ _ w.heap.size 38 (Ctl.cells ctlZ).toArray (0, 0) _ rfl (setRow_heap _ _ _ _ _ _ XA.out) Tryd.underlying38 rfl (by rw [SZZ.out]; kernel_rfl)) rfl ⟨rfl, below_setRow D.out (Nat.le_refl _) _⟩
    · have ec : (if l.length < 4096 then (4 : Int) else if 4096 < l.length then 5 else 0) = 5 := by rw [if_neg p1, if_pos (by omega)]
      have EC := Lib.hid ec; clear ec
      go_enter Tryd.func24, Tryd.ntmps24
      go_upto_region 2 with (fail)
      first
        | rw [← HW.out]
        | (show Code.wp _ _ _ _ ((w.alloc (.cells (Ctl.cells ctlZ).toArray 38)).alloc (.cells (Ctl.cells ctlZ).toArray 38)); rw [← HW.out])
      go_wp2_with (first
        | (go_at_call 77; go_loud (refine (check_any _ l 5 _ (BV0.out.below D.out) EC.out).mono ?_; rintro r w' ⟨rfl, rfl⟩))
        | (refine wpList_load_row rfl 38 (.tmp 4) rfl (w.heap.size + 1) rfl 38 _ (0, 0) _ XB.out Tryd.underlying38 rfl (by rw [SZZ.out]; kernel_rfl) ?_)
        | (refine wpList_store_row rfl 38 (.tmp 2) (.tmp 12) rfl w.heap.size (Ctl.cells ctlZ).toArray rfl rfl 38 _ XA.out (by rw [SZZ.out]; kernel_rfl) rfl (Ctl.cells_one _) ?_))
      obtain ⟨e1, e2⟩ : y = ctlZ ∧ e = 5 := by
        have h := HD.out
        unfold decV at h
        rw [if_neg p1, if_pos (by omega)] at h
        simp at h
        exact ⟨h.1.symm, h.2.symm⟩
      rw [e1, e2]
      exact bodyPost_ret (results_row_tmp rfl _ _ w.heap.size 38 (Ctl.cells ctlZ).toArray (0, 0) _ rfl (setRow_heap _ _ _ _ _ _ XA.out) Tryd.underlying38 rfl (by rw [SZZ.out]; kernel_rfl)) rfl ⟨rfl, below_setRow D.out (Nat.le_refl _) _⟩
end Go.Proofs.YthnnopjakpjoeaaDoor
