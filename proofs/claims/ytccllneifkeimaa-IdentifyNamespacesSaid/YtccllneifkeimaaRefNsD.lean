/- The reference's DecodeNamespace. Printed by genrnsd.py. -/
import Derived.Test.YtccllneifkeimaaRefNs
namespace Go.Proofs.Ytccllneifkeimaa
open Go.RowKit Idn
set_option linter.unusedVariables false
set_option linter.unusedSimpArgs false
namespace Idn
def kv (l : List (BitVec 8)) (s : Nat × Kd × Nat) : Value := s.2.1.val (Wire.getV (cutL l s.1 s.2.1.size))
theorem readS_get (l : List (BitVec 8)) (j : Nat) : ∀ (sp : Spec) (C : Array Value), C.size = 80 → (∀ s ∈ sp, nsSpec[s.2.2]? = some s) → (readS l C sp)[j]? = if j ∈ sp.map (·.2.2) then (nsSpec[j]?).map (kv l) else C[j]? := by
  intro sp
  induction sp with
  | nil => intro C _ _; simp [readS]
  | cons s sp ih =>
    intro C hC hs
    have h0 := hs s (by simp)
    have hi : s.2.2 < 80 := by have := (List.getElem?_eq_some_iff.1 h0).1; rwa [nsSpec_len] at this
    show (readS l (C.setIfInBounds s.2.2 (kv l s)) sp)[j]? = _
    rw [ih _ (by rw [Array.size_setIfInBounds]; exact hC) (fun t ht => hs t (by simp [ht]))]
    by_cases h1 : j ∈ sp.map (·.2.2)
    · rw [if_pos h1, if_pos (by rw [List.map_cons]; exact List.mem_cons_of_mem _ h1)]
    · rw [if_neg h1, Array.getElem?_setIfInBounds]
      by_cases h2 : s.2.2 = j
      · subst h2
        rw [if_pos rfl, if_pos (by omega), if_pos (by simp), h0]; rfl
      · rw [if_neg h2, if_neg (by rw [List.map_cons, List.mem_cons]; rintro (h | h); exact h2 h.symm; exact h1 h)]
def rh (l : List (BitVec 8)) (n : Nat) : Array Value := readS l (NsL.cells nsZ).toArray (nsSpec.take n)
theorem rh_size (l : List (BitVec 8)) (n : Nat) : (rh l n).size = 80 := by unfold rh; rw [readS_size]; exact ns_sz nsZ_ok
theorem rh_succ (l : List (BitVec 8)) (n a : Nat) (k : Kd) (h : nsSpec[n]? = some (a, k, n)) : rh l (n + 1) = (rh l n).setIfInBounds n (k.val (Wire.getV (cutL l a k.size))) := by
  obtain ⟨h1, h2⟩ := List.getElem?_eq_some_iff.1 h
  unfold rh
  rw [List.take_succ_eq_append_getElem h1, h2, readS_snoc]
def spO (k : Nat) : Spec := (ordN k).map fun j => nsSpec.getD j (0, .u8, 0)
def rs (l : List (BitVec 8)) (k : Nat) : Array Value := readS l (NsL.cells nsZ).toArray (spO k)
theorem rs_size (l : List (BitVec 8)) (n : Nat) : (rs l n).size = 80 := by unfold rs; rw [readS_size]; exact ns_sz nsZ_ok
theorem rs_zero (l : List (BitVec 8)) : rs l 0 = rh l 16 := by
  have h : spO 0 = nsSpec.take 16 := by decide +kernel
  unfold rs rh; rw [h]
theorem rs_succ (l : List (BitVec 8)) (k : Nat) (hk : k < 16) : rs l (k + 1) = ((((rs l k).setIfInBounds (16 + k) (.int .u8 (uv ((Wire.getV (cutL l (104 + k) 1)).setWidth 8)))).setIfInBounds (32 + 3 * k) (.int .u16 (uv ((Wire.getV (cutL l (128 + 4 * k) 2)).setWidth 16)))).setIfInBounds (32 + 3 * k + 1) (.int .u8 (uv ((Wire.getV (cutL l (130 + 4 * k) 1)).setWidth 8)))).setIfInBounds (32 + 3 * k + 2) (.int .u8 (uv ((Wire.getV (cutL l (131 + 4 * k) 1)).setWidth 8))) := by
  obtain ⟨h1, h2, h3⟩ := spec_blk k hk
  have h0 := guid_at k hk
  unfold rs spO
  rw [ordN_succ, List.map_append]
  rw [List.map_cons, List.map_cons, List.map_cons, List.map_cons, List.map_nil]
  simp only [List.getD_eq_getElem?_getD, h0, h1, h2, h3, Option.getD_some]
  unfold readS
  rw [List.foldl_append]
  generalize List.foldl _ _ (List.map _ (ordN k)) = A
  simp only [List.foldl_cons, List.foldl_nil, Kd.val, Kd.size]
theorem spO_at : (spO 16).all (fun s => decide (nsSpec[s.2.2]? = some s)) = true := by decide +kernel
theorem spO_all : (List.range 80).all (fun j => decide (j ∈ (spO 16).map (·.2.2))) = true := by decide +kernel
theorem rs_end (l : List (BitVec 8)) : rs l 16 = (nsC (rdNs l)).toArray := by
  rw [rdNs_cells]
  apply Array.ext_getElem?
  intro j
  unfold rs
  rw [readS_get l j _ _ (ns_sz nsZ_ok) (fun s hs => of_decide_eq_true (List.all_eq_true.1 spO_at s hs))]
  by_cases hj : j < 80
  · rw [if_pos (of_decide_eq_true (List.all_eq_true.1 spO_all j (List.mem_range.2 hj))), List.getElem?_toArray, List.getElem?_map]; rfl
  · rw [if_neg, Array.getElem?_eq_none (by rw [ns_sz nsZ_ok]; omega)]
    · exact (Array.getElem?_eq_none (by rw [List.size_toArray, List.length_map, nsSpec_len]; omega)).symm
    · intro hm
      obtain ⟨s, hs, rfl⟩ := List.mem_map.1 hm
      have := of_decide_eq_true (List.all_eq_true.1 spO_at s hs)
      have := (List.getElem?_eq_some_iff.1 this).1
      rw [nsSpec_len] at this
      exact hj this
theorem getV_one {l : List (BitVec 8)} {a : Nat} {y : BitVec 8} (h : l[a]? = some y) : (Wire.getV (cutL l a 1)).setWidth 8 = y := by
  obtain ⟨h1, h2⟩ := List.getElem?_eq_some_iff.1 h
  rw [(getV_cut (n := 1) (by omega) (by omega) (by omega)).1]
  have e : cutL l a 1 = Wire.le (y.setWidth 64) 1 := by
    apply List.ext_getElem?
    intro i
    by_cases hi : i < 1
    · obtain rfl : i = 0 := by omega
      rw [Wire.le_get _ 1 0 (by omega)]
      unfold cutL
      rw [List.getElem?_take_of_lt (by omega), List.getElem?_drop, Nat.add_zero, h]
      simp
    · rw [List.getElem?_eq_none (by rw [cutL_len (by omega)]; omega), List.getElem?_eq_none (by rw [Wire.le_len]; omega)]
  rw [e, Wire.get_le _ 1 (by omega) (fun _ => by apply BitVec.eq_of_toNat_eq; rw [BitVec.toNat_ushiftRight, BitVec.toNat_setWidth, Nat.shiftRight_eq_div_pow, Nat.div_eq_of_lt (by have := y.isLt; omega)]; rfl)]
  simp
end Idn
set_option maxHeartbeats 6400000 in
set_option maxRecDepth 100000 in
theorem rDecode_Ns (l : List (BitVec 8)) (bv : Value) (w : World) (y : NsL) (e : Int) (hb : BytesV w bv l) (hl : l.length ≤ 140737488355328) (hd : decV rdNs okNs nsB nsZ l = (y, e)) :
    Calls Try.prog 25 #[bv] w fun r w' => r = .returned (.tuple #[.agg (NsL.cells y).toArray, .int .i64 e]) ∧ Below w.heap.size w w' := by
  have HD := Lib.hid hd; have BV0 := Lib.hid hb
  have SnsZ := Lib.hid (show (NsL.cells nsZ).toArray.size = 80 from ns_sz nsZ_ok)
  obtain ⟨W, hW⟩ : ∃ W, W = (w.alloc (.cells (NsL.cells nsZ).toArray 59)).alloc (.cells (NsL.cells nsZ).toArray 59) := ⟨_, rfl⟩
  have D := Lib.hid (show Below w.heap.size w W by rw [hW]; exact gr_tr (gr_alloc w _) (gr_alloc _ _))
  have XA := Lib.hid (show W.heap[w.heap.size]? = some (.cells (NsL.cells nsZ).toArray 59 (0, 0)) by rw [hW]; exact blk_below (heap_alloc_new w _) (gr_alloc _ _))
  have XB := Lib.hid (show W.heap[w.heap.size + 1]? = some (.cells (NsL.cells nsZ).toArray 59 (0, 0)) by rw [hW]; have := heap_alloc_new (w.alloc (.cells (NsL.cells nsZ).toArray 59)) (.cells (NsL.cells nsZ).toArray 59); rwa [World.size_alloc] at this)
  rw [NsL_lit] at hW
  have HW := Lib.hid hW
  clear hW hd hb
  by_cases h4 : l.length = 4096
  · obtain ⟨g, o, cv, rfl⟩ := BV0.out.shapeAt (by omega)
    have hb4 := BV0.out
    rw [h4] at hb4 ⊢
    replace BV0 := Lib.hid hb4
    clear hb4
    have HL4 := Lib.hid h4
    have ec : (if l.length < 4096 then (4 : Int) else if 4096 < l.length then 5 else 0) = 0 := by rw [if_neg (by omega), if_neg (by omega)]
    have EC := Lib.hid ec
    have GL := Lib.hid (slice_lt BV0.out (by omega))
    clear h4 ec
    have BV := Lib.hid (BV0.out.below D.out)
    have OFF := Lib.hid (show Off (fun b => b = w.heap.size + 1) (.slice (some ⟨g, o, none⟩) 4096 cv) from fun g' o' n' c' e h => by have := GL.out g' o' n' c' e; omega)
    have hcap : (l.length : Int) ≤ 9223372036854775807 := by omega
    go_enter Try.func25, Try.ntmps25
    go_upto_region 2 with (fail)
    rw [← HW.out]
    go_upto_region 5 with (go_at_call 51; go_loud (refine (check_any _ l 0 _ BV.out EC.out).mono ?_; rintro r w' ⟨rfl, rfl⟩))
    have X_0 := Lib.hid (show W.heap[w.heap.size + 1]? = some (.cells (rh l 0) 59 (0, 0)) from XB.out)
    have Q_0 := Lib.hid (Chg.refl (fun b => b = w.heap.size + 1) W)
    go_upto_region 5 with (fail)
    go_cut [] (fun wx => wx.heap[w.heap.size + 1]? = some (.cells (rh l 1) 59 (0, 0)) ∧ Chg (fun b => b = w.heap.size + 1) W wx)
    case first =>
      obtain ⟨v, hv⟩ : ∃ v, Wire.getV (cutL l 0 8) = v := ⟨_, rfl⟩
      have HV := Lib.hid hv; clear hv
      have cX := (cell_of_row _ _ 0 _ _ _ X_0.out).trans (Array.getElem?_eq_getElem (by rw [rh_size]; decide))
      have fX := frozen_of_row _ _ 0 _ _ X_0.out
      go_wp2_with (go_at_call 56; go_loud (refine (rget_at g o _ cv l 0 8 v _ (BV.out.chg Q_0.out OFF.out) (by have := HL4.out; omega) (by decide) (by decide) HV.out).mono ?_; rintro r w' ⟨rfl, rfl⟩))
      go_meet
      refine ⟨?_, Q_0.out.trans (Chg.setCell (B := fun b => b = w.heap.size + 1) (p := ⟨w.heap.size + 1, 0, none⟩) _ rfl _)⟩
      rw [rh_succ l 0 0 .u64 rfl]
      show _ = some (Obj.cells ((rh l 0).setIfInBounds 0 (Kd.val .u64 (Wire.getV (cutL l 0 8)))) _ _)
      rw [HV.out]
      exact heap_setCell_same _ _ _ _ _ _ X_0.out
    obtain ⟨hx, hc⟩ := hcut
    obtain ⟨wA1, eA⟩ : ∃ z, z = wc := ⟨_, rfl⟩
    subst eA
    have X_1 := Lib.hid hx; have Q_1 := Lib.hid hc
    clear hx hc
    go_upto_region 6 with (fail)
    go_cut [] (fun wx => wx.heap[w.heap.size + 1]? = some (.cells (rh l 2) 59 (0, 0)) ∧ Chg (fun b => b = w.heap.size + 1) W wx)
    case first =>
      obtain ⟨v, hv⟩ : ∃ v, Wire.getV (cutL l 8 8) = v := ⟨_, rfl⟩
      have HV := Lib.hid hv; clear hv
      have cX := (cell_of_row _ _ 1 _ _ _ X_1.out).trans (Array.getElem?_eq_getElem (by rw [rh_size]; decide))
      have fX := frozen_of_row _ _ 1 _ _ X_1.out
      go_wp2_with (go_at_call 56; go_loud (refine (rget_at g o _ cv l 8 8 v _ (BV.out.chg Q_1.out OFF.out) (by have := HL4.out; omega) (by decide) (by decide) HV.out).mono ?_; rintro r w' ⟨rfl, rfl⟩))
      go_meet
      refine ⟨?_, Q_1.out.trans (Chg.setCell (B := fun b => b = w.heap.size + 1) (p := ⟨w.heap.size + 1, 1, none⟩) _ rfl _)⟩
      rw [rh_succ l 1 8 .u64 rfl]
      show _ = some (Obj.cells ((rh l 1).setIfInBounds 1 (Kd.val .u64 (Wire.getV (cutL l 8 8)))) _ _)
      rw [HV.out]
      exact heap_setCell_same _ _ _ _ _ _ X_1.out
    obtain ⟨hx, hc⟩ := hcut
    obtain ⟨wA2, eA⟩ : ∃ z, z = wc := ⟨_, rfl⟩
    subst eA
    have X_2 := Lib.hid hx; have Q_2 := Lib.hid hc
    clear hx hc
    go_upto_region 7 with (fail)
    go_cut [] (fun wx => wx.heap[w.heap.size + 1]? = some (.cells (rh l 3) 59 (0, 0)) ∧ Chg (fun b => b = w.heap.size + 1) W wx)
    case first =>
      obtain ⟨v, hv⟩ : ∃ v, Wire.getV (cutL l 16 8) = v := ⟨_, rfl⟩
      have HV := Lib.hid hv; clear hv
      have cX := (cell_of_row _ _ 2 _ _ _ X_2.out).trans (Array.getElem?_eq_getElem (by rw [rh_size]; decide))
      have fX := frozen_of_row _ _ 2 _ _ X_2.out
      go_wp2_with (go_at_call 56; go_loud (refine (rget_at g o _ cv l 16 8 v _ (BV.out.chg Q_2.out OFF.out) (by have := HL4.out; omega) (by decide) (by decide) HV.out).mono ?_; rintro r w' ⟨rfl, rfl⟩))
      go_meet
      refine ⟨?_, Q_2.out.trans (Chg.setCell (B := fun b => b = w.heap.size + 1) (p := ⟨w.heap.size + 1, 2, none⟩) _ rfl _)⟩
      rw [rh_succ l 2 16 .u64 rfl]
      show _ = some (Obj.cells ((rh l 2).setIfInBounds 2 (Kd.val .u64 (Wire.getV (cutL l 16 8)))) _ _)
      rw [HV.out]
      exact heap_setCell_same _ _ _ _ _ _ X_2.out
    obtain ⟨hx, hc⟩ := hcut
    obtain ⟨wA3, eA⟩ : ∃ z, z = wc := ⟨_, rfl⟩
    subst eA
    have X_3 := Lib.hid hx; have Q_3 := Lib.hid hc
    clear hx hc
    go_upto_region 8 with (fail)
    go_cut [] (fun wx => wx.heap[w.heap.size + 1]? = some (.cells (rh l 4) 59 (0, 0)) ∧ Chg (fun b => b = w.heap.size + 1) W wx)
    case first =>
      obtain ⟨v, hv⟩ : ∃ v, Wire.getV (cutL l 24 1) = v := ⟨_, rfl⟩
      have HV := Lib.hid hv; clear hv
      have cX := (cell_of_row _ _ 3 _ _ _ X_3.out).trans (Array.getElem?_eq_getElem (by rw [rh_size]; decide))
      have fX := frozen_of_row _ _ 3 _ _ X_3.out
      go_wp2_with (go_at_call 56; go_loud (refine (rget_at g o _ cv l 24 1 v _ (BV.out.chg Q_3.out OFF.out) (by have := HL4.out; omega) (by decide) (by decide) HV.out).mono ?_; rintro r w' ⟨rfl, rfl⟩))
      go_meet
      refine ⟨?_, Q_3.out.trans (Chg.setCell (B := fun b => b = w.heap.size + 1) (p := ⟨w.heap.size + 1, 3, none⟩) _ rfl _)⟩
      rw [rh_succ l 3 24 .u8 rfl]
      show _ = some (Obj.cells ((rh l 3).setIfInBounds 3 (Kd.val .u8 (Wire.getV (cutL l 24 1)))) _ _)
      rw [HV.out]
      exact heap_setCell_same _ _ _ _ _ _ X_3.out
    obtain ⟨hx, hc⟩ := hcut
    obtain ⟨wA4, eA⟩ : ∃ z, z = wc := ⟨_, rfl⟩
    subst eA
    have X_4 := Lib.hid hx; have Q_4 := Lib.hid hc
    clear hx hc
    go_upto_region 9 with (fail)
    go_cut [] (fun wx => wx.heap[w.heap.size + 1]? = some (.cells (rh l 5) 59 (0, 0)) ∧ Chg (fun b => b = w.heap.size + 1) W wx)
    case first =>
      obtain ⟨v, hv⟩ : ∃ v, Wire.getV (cutL l 25 1) = v := ⟨_, rfl⟩
      have HV := Lib.hid hv; clear hv
      have cX := (cell_of_row _ _ 4 _ _ _ X_4.out).trans (Array.getElem?_eq_getElem (by rw [rh_size]; decide))
      have fX := frozen_of_row _ _ 4 _ _ X_4.out
      go_wp2_with (go_at_call 56; go_loud (refine (rget_at g o _ cv l 25 1 v _ (BV.out.chg Q_4.out OFF.out) (by have := HL4.out; omega) (by decide) (by decide) HV.out).mono ?_; rintro r w' ⟨rfl, rfl⟩))
      go_meet
      refine ⟨?_, Q_4.out.trans (Chg.setCell (B := fun b => b = w.heap.size + 1) (p := ⟨w.heap.size + 1, 4, none⟩) _ rfl _)⟩
      rw [rh_succ l 4 25 .u8 rfl]
      show _ = some (Obj.cells ((rh l 4).setIfInBounds 4 (Kd.val .u8 (Wire.getV (cutL l 25 1)))) _ _)
      rw [HV.out]
      exact heap_setCell_same _ _ _ _ _ _ X_4.out
    obtain ⟨hx, hc⟩ := hcut
    obtain ⟨wA5, eA⟩ : ∃ z, z = wc := ⟨_, rfl⟩
    subst eA
    have X_5 := Lib.hid hx; have Q_5 := Lib.hid hc
    clear hx hc
    go_upto_region 10 with (fail)
    go_cut [] (fun wx => wx.heap[w.heap.size + 1]? = some (.cells (rh l 6) 59 (0, 0)) ∧ Chg (fun b => b = w.heap.size + 1) W wx)
    case first =>
      obtain ⟨v, hv⟩ : ∃ v, Wire.getV (cutL l 26 1) = v := ⟨_, rfl⟩
      have HV := Lib.hid hv; clear hv
      have cX := (cell_of_row _ _ 5 _ _ _ X_5.out).trans (Array.getElem?_eq_getElem (by rw [rh_size]; decide))
      have fX := frozen_of_row _ _ 5 _ _ X_5.out
      go_wp2_with (go_at_call 56; go_loud (refine (rget_at g o _ cv l 26 1 v _ (BV.out.chg Q_5.out OFF.out) (by have := HL4.out; omega) (by decide) (by decide) HV.out).mono ?_; rintro r w' ⟨rfl, rfl⟩))
      go_meet
      refine ⟨?_, Q_5.out.trans (Chg.setCell (B := fun b => b = w.heap.size + 1) (p := ⟨w.heap.size + 1, 5, none⟩) _ rfl _)⟩
      rw [rh_succ l 5 26 .u8 rfl]
      show _ = some (Obj.cells ((rh l 5).setIfInBounds 5 (Kd.val .u8 (Wire.getV (cutL l 26 1)))) _ _)
      rw [HV.out]
      exact heap_setCell_same _ _ _ _ _ _ X_5.out
    obtain ⟨hx, hc⟩ := hcut
    obtain ⟨wA6, eA⟩ : ∃ z, z = wc := ⟨_, rfl⟩
    subst eA
    have X_6 := Lib.hid hx; have Q_6 := Lib.hid hc
    clear hx hc
    go_upto_region 11 with (fail)
    go_cut [] (fun wx => wx.heap[w.heap.size + 1]? = some (.cells (rh l 7) 59 (0, 0)) ∧ Chg (fun b => b = w.heap.size + 1) W wx)
    case first =>
      obtain ⟨v, hv⟩ : ∃ v, Wire.getV (cutL l 27 1) = v := ⟨_, rfl⟩
      have HV := Lib.hid hv; clear hv
      have cX := (cell_of_row _ _ 6 _ _ _ X_6.out).trans (Array.getElem?_eq_getElem (by rw [rh_size]; decide))
      have fX := frozen_of_row _ _ 6 _ _ X_6.out
      go_wp2_with (go_at_call 56; go_loud (refine (rget_at g o _ cv l 27 1 v _ (BV.out.chg Q_6.out OFF.out) (by have := HL4.out; omega) (by decide) (by decide) HV.out).mono ?_; rintro r w' ⟨rfl, rfl⟩))
      go_meet
      refine ⟨?_, Q_6.out.trans (Chg.setCell (B := fun b => b = w.heap.size + 1) (p := ⟨w.heap.size + 1, 6, none⟩) _ rfl _)⟩
      rw [rh_succ l 6 27 .u8 rfl]
      show _ = some (Obj.cells ((rh l 6).setIfInBounds 6 (Kd.val .u8 (Wire.getV (cutL l 27 1)))) _ _)
      rw [HV.out]
      exact heap_setCell_same _ _ _ _ _ _ X_6.out
    obtain ⟨hx, hc⟩ := hcut
    obtain ⟨wA7, eA⟩ : ∃ z, z = wc := ⟨_, rfl⟩
    subst eA
    have X_7 := Lib.hid hx; have Q_7 := Lib.hid hc
    clear hx hc
    go_upto_region 12 with (fail)
    go_cut [] (fun wx => wx.heap[w.heap.size + 1]? = some (.cells (rh l 8) 59 (0, 0)) ∧ Chg (fun b => b = w.heap.size + 1) W wx)
    case first =>
      obtain ⟨v, hv⟩ : ∃ v, Wire.getV (cutL l 28 1) = v := ⟨_, rfl⟩
      have HV := Lib.hid hv; clear hv
      have cX := (cell_of_row _ _ 7 _ _ _ X_7.out).trans (Array.getElem?_eq_getElem (by rw [rh_size]; decide))
      have fX := frozen_of_row _ _ 7 _ _ X_7.out
      go_wp2_with (go_at_call 56; go_loud (refine (rget_at g o _ cv l 28 1 v _ (BV.out.chg Q_7.out OFF.out) (by have := HL4.out; omega) (by decide) (by decide) HV.out).mono ?_; rintro r w' ⟨rfl, rfl⟩))
      go_meet
      refine ⟨?_, Q_7.out.trans (Chg.setCell (B := fun b => b = w.heap.size + 1) (p := ⟨w.heap.size + 1, 7, none⟩) _ rfl _)⟩
      rw [rh_succ l 7 28 .u8 rfl]
      show _ = some (Obj.cells ((rh l 7).setIfInBounds 7 (Kd.val .u8 (Wire.getV (cutL l 28 1)))) _ _)
      rw [HV.out]
      exact heap_setCell_same _ _ _ _ _ _ X_7.out
    obtain ⟨hx, hc⟩ := hcut
    obtain ⟨wA8, eA⟩ : ∃ z, z = wc := ⟨_, rfl⟩
    subst eA
    have X_8 := Lib.hid hx; have Q_8 := Lib.hid hc
    clear hx hc
    go_upto_region 13 with (fail)
    go_cut [] (fun wx => wx.heap[w.heap.size + 1]? = some (.cells (rh l 9) 59 (0, 0)) ∧ Chg (fun b => b = w.heap.size + 1) W wx)
    case first =>
      obtain ⟨v, hv⟩ : ∃ v, Wire.getV (cutL l 29 1) = v := ⟨_, rfl⟩
      have HV := Lib.hid hv; clear hv
      have cX := (cell_of_row _ _ 8 _ _ _ X_8.out).trans (Array.getElem?_eq_getElem (by rw [rh_size]; decide))
      have fX := frozen_of_row _ _ 8 _ _ X_8.out
      go_wp2_with (go_at_call 56; go_loud (refine (rget_at g o _ cv l 29 1 v _ (BV.out.chg Q_8.out OFF.out) (by have := HL4.out; omega) (by decide) (by decide) HV.out).mono ?_; rintro r w' ⟨rfl, rfl⟩))
      go_meet
      refine ⟨?_, Q_8.out.trans (Chg.setCell (B := fun b => b = w.heap.size + 1) (p := ⟨w.heap.size + 1, 8, none⟩) _ rfl _)⟩
      rw [rh_succ l 8 29 .u8 rfl]
      show _ = some (Obj.cells ((rh l 8).setIfInBounds 8 (Kd.val .u8 (Wire.getV (cutL l 29 1)))) _ _)
      rw [HV.out]
      exact heap_setCell_same _ _ _ _ _ _ X_8.out
    obtain ⟨hx, hc⟩ := hcut
    obtain ⟨wA9, eA⟩ : ∃ z, z = wc := ⟨_, rfl⟩
    subst eA
    have X_9 := Lib.hid hx; have Q_9 := Lib.hid hc
    clear hx hc
    go_upto_region 14 with (fail)
    go_cut [] (fun wx => wx.heap[w.heap.size + 1]? = some (.cells (rh l 10) 59 (0, 0)) ∧ Chg (fun b => b = w.heap.size + 1) W wx)
    case first =>
      obtain ⟨v, hv⟩ : ∃ v, Wire.getV (cutL l 30 1) = v := ⟨_, rfl⟩
      have HV := Lib.hid hv; clear hv
      have cX := (cell_of_row _ _ 9 _ _ _ X_9.out).trans (Array.getElem?_eq_getElem (by rw [rh_size]; decide))
      have fX := frozen_of_row _ _ 9 _ _ X_9.out
      go_wp2_with (go_at_call 56; go_loud (refine (rget_at g o _ cv l 30 1 v _ (BV.out.chg Q_9.out OFF.out) (by have := HL4.out; omega) (by decide) (by decide) HV.out).mono ?_; rintro r w' ⟨rfl, rfl⟩))
      go_meet
      refine ⟨?_, Q_9.out.trans (Chg.setCell (B := fun b => b = w.heap.size + 1) (p := ⟨w.heap.size + 1, 9, none⟩) _ rfl _)⟩
      rw [rh_succ l 9 30 .u8 rfl]
      show _ = some (Obj.cells ((rh l 9).setIfInBounds 9 (Kd.val .u8 (Wire.getV (cutL l 30 1)))) _ _)
      rw [HV.out]
      exact heap_setCell_same _ _ _ _ _ _ X_9.out
    obtain ⟨hx, hc⟩ := hcut
    obtain ⟨wA10, eA⟩ : ∃ z, z = wc := ⟨_, rfl⟩
    subst eA
    have X_10 := Lib.hid hx; have Q_10 := Lib.hid hc
    clear hx hc
    go_upto_region 15 with (fail)
    go_cut [] (fun wx => wx.heap[w.heap.size + 1]? = some (.cells (rh l 11) 59 (0, 0)) ∧ Chg (fun b => b = w.heap.size + 1) W wx)
    case first =>
      obtain ⟨v, hv⟩ : ∃ v, Wire.getV (cutL l 31 1) = v := ⟨_, rfl⟩
      have HV := Lib.hid hv; clear hv
      have cX := (cell_of_row _ _ 10 _ _ _ X_10.out).trans (Array.getElem?_eq_getElem (by rw [rh_size]; decide))
      have fX := frozen_of_row _ _ 10 _ _ X_10.out
      go_wp2_with (go_at_call 56; go_loud (refine (rget_at g o _ cv l 31 1 v _ (BV.out.chg Q_10.out OFF.out) (by have := HL4.out; omega) (by decide) (by decide) HV.out).mono ?_; rintro r w' ⟨rfl, rfl⟩))
      go_meet
      refine ⟨?_, Q_10.out.trans (Chg.setCell (B := fun b => b = w.heap.size + 1) (p := ⟨w.heap.size + 1, 10, none⟩) _ rfl _)⟩
      rw [rh_succ l 10 31 .u8 rfl]
      show _ = some (Obj.cells ((rh l 10).setIfInBounds 10 (Kd.val .u8 (Wire.getV (cutL l 31 1)))) _ _)
      rw [HV.out]
      exact heap_setCell_same _ _ _ _ _ _ X_10.out
    obtain ⟨hx, hc⟩ := hcut
    obtain ⟨wA11, eA⟩ : ∃ z, z = wc := ⟨_, rfl⟩
    subst eA
    have X_11 := Lib.hid hx; have Q_11 := Lib.hid hc
    clear hx hc
    go_upto_region 16 with (fail)
    go_cut [] (fun wx => wx.heap[w.heap.size + 1]? = some (.cells (rh l 12) 59 (0, 0)) ∧ Chg (fun b => b = w.heap.size + 1) W wx)
    case first =>
      obtain ⟨v, hv⟩ : ∃ v, Wire.getV (cutL l 34 2) = v := ⟨_, rfl⟩
      have HV := Lib.hid hv; clear hv
      have cX := (cell_of_row _ _ 11 _ _ _ X_11.out).trans (Array.getElem?_eq_getElem (by rw [rh_size]; decide))
      have fX := frozen_of_row _ _ 11 _ _ X_11.out
      go_wp2_with (go_at_call 56; go_loud (refine (rget_at g o _ cv l 34 2 v _ (BV.out.chg Q_11.out OFF.out) (by have := HL4.out; omega) (by decide) (by decide) HV.out).mono ?_; rintro r w' ⟨rfl, rfl⟩))
      go_meet
      refine ⟨?_, Q_11.out.trans (Chg.setCell (B := fun b => b = w.heap.size + 1) (p := ⟨w.heap.size + 1, 11, none⟩) _ rfl _)⟩
      rw [rh_succ l 11 34 .u16 rfl]
      show _ = some (Obj.cells ((rh l 11).setIfInBounds 11 (Kd.val .u16 (Wire.getV (cutL l 34 2)))) _ _)
      rw [HV.out]
      exact heap_setCell_same _ _ _ _ _ _ X_11.out
    obtain ⟨hx, hc⟩ := hcut
    obtain ⟨wA12, eA⟩ : ∃ z, z = wc := ⟨_, rfl⟩
    subst eA
    have X_12 := Lib.hid hx; have Q_12 := Lib.hid hc
    clear hx hc
    go_upto_region 17 with (fail)
    go_cut [] (fun wx => wx.heap[w.heap.size + 1]? = some (.cells (rh l 13) 59 (0, 0)) ∧ Chg (fun b => b = w.heap.size + 1) W wx)
    case first =>
      obtain ⟨v, hv⟩ : ∃ v, Wire.getV (cutL l 36 2) = v := ⟨_, rfl⟩
      have HV := Lib.hid hv; clear hv
      have cX := (cell_of_row _ _ 12 _ _ _ X_12.out).trans (Array.getElem?_eq_getElem (by rw [rh_size]; decide))
      have fX := frozen_of_row _ _ 12 _ _ X_12.out
      go_wp2_with (go_at_call 56; go_loud (refine (rget_at g o _ cv l 36 2 v _ (BV.out.chg Q_12.out OFF.out) (by have := HL4.out; omega) (by decide) (by decide) HV.out).mono ?_; rintro r w' ⟨rfl, rfl⟩))
      go_meet
      refine ⟨?_, Q_12.out.trans (Chg.setCell (B := fun b => b = w.heap.size + 1) (p := ⟨w.heap.size + 1, 12, none⟩) _ rfl _)⟩
      rw [rh_succ l 12 36 .u16 rfl]
      show _ = some (Obj.cells ((rh l 12).setIfInBounds 12 (Kd.val .u16 (Wire.getV (cutL l 36 2)))) _ _)
      rw [HV.out]
      exact heap_setCell_same _ _ _ _ _ _ X_12.out
    obtain ⟨hx, hc⟩ := hcut
    obtain ⟨wA13, eA⟩ : ∃ z, z = wc := ⟨_, rfl⟩
    subst eA
    have X_13 := Lib.hid hx; have Q_13 := Lib.hid hc
    clear hx hc
    go_upto_region 18 with (fail)
    go_cut [] (fun wx => wx.heap[w.heap.size + 1]? = some (.cells (rh l 14) 59 (0, 0)) ∧ Chg (fun b => b = w.heap.size + 1) W wx)
    case first =>
      obtain ⟨v, hv⟩ : ∃ v, Wire.getV (cutL l 38 2) = v := ⟨_, rfl⟩
      have HV := Lib.hid hv; clear hv
      have cX := (cell_of_row _ _ 13 _ _ _ X_13.out).trans (Array.getElem?_eq_getElem (by rw [rh_size]; decide))
      have fX := frozen_of_row _ _ 13 _ _ X_13.out
      go_wp2_with (go_at_call 56; go_loud (refine (rget_at g o _ cv l 38 2 v _ (BV.out.chg Q_13.out OFF.out) (by have := HL4.out; omega) (by decide) (by decide) HV.out).mono ?_; rintro r w' ⟨rfl, rfl⟩))
      go_meet
      refine ⟨?_, Q_13.out.trans (Chg.setCell (B := fun b => b = w.heap.size + 1) (p := ⟨w.heap.size + 1, 13, none⟩) _ rfl _)⟩
      rw [rh_succ l 13 38 .u16 rfl]
      show _ = some (Obj.cells ((rh l 13).setIfInBounds 13 (Kd.val .u16 (Wire.getV (cutL l 38 2)))) _ _)
      rw [HV.out]
      exact heap_setCell_same _ _ _ _ _ _ X_13.out
    obtain ⟨hx, hc⟩ := hcut
    obtain ⟨wA14, eA⟩ : ∃ z, z = wc := ⟨_, rfl⟩
    subst eA
    have X_14 := Lib.hid hx; have Q_14 := Lib.hid hc
    clear hx hc
    go_upto_region 19 with (fail)
    go_cut [] (fun wx => wx.heap[w.heap.size + 1]? = some (.cells (rh l 15) 59 (0, 0)) ∧ Chg (fun b => b = w.heap.size + 1) W wx)
    case first =>
      obtain ⟨v, hv⟩ : ∃ v, Wire.getV (cutL l 92 4) = v := ⟨_, rfl⟩
      have HV := Lib.hid hv; clear hv
      have cX := (cell_of_row _ _ 14 _ _ _ X_14.out).trans (Array.getElem?_eq_getElem (by rw [rh_size]; decide))
      have fX := frozen_of_row _ _ 14 _ _ X_14.out
      go_wp2_with (go_at_call 56; go_loud (refine (rget_at g o _ cv l 92 4 v _ (BV.out.chg Q_14.out OFF.out) (by have := HL4.out; omega) (by decide) (by decide) HV.out).mono ?_; rintro r w' ⟨rfl, rfl⟩))
      go_meet
      refine ⟨?_, Q_14.out.trans (Chg.setCell (B := fun b => b = w.heap.size + 1) (p := ⟨w.heap.size + 1, 14, none⟩) _ rfl _)⟩
      rw [rh_succ l 14 92 .u32 rfl]
      show _ = some (Obj.cells ((rh l 14).setIfInBounds 14 (Kd.val .u32 (Wire.getV (cutL l 92 4)))) _ _)
      rw [HV.out]
      exact heap_setCell_same _ _ _ _ _ _ X_14.out
    obtain ⟨hx, hc⟩ := hcut
    obtain ⟨wA15, eA⟩ : ∃ z, z = wc := ⟨_, rfl⟩
    subst eA
    have X_15 := Lib.hid hx; have Q_15 := Lib.hid hc
    clear hx hc
    go_upto_region 20 with (fail)
    go_cut [] (fun wx => wx.heap[w.heap.size + 1]? = some (.cells (rh l 16) 59 (0, 0)) ∧ Chg (fun b => b = w.heap.size + 1) W wx)
    case first =>
      obtain ⟨v, hv⟩ : ∃ v, Wire.getV (cutL l 120 8) = v := ⟨_, rfl⟩
      have HV := Lib.hid hv; clear hv
      have cX := (cell_of_row _ _ 15 _ _ _ X_15.out).trans (Array.getElem?_eq_getElem (by rw [rh_size]; decide))
      have fX := frozen_of_row _ _ 15 _ _ X_15.out
      go_wp2_with (go_at_call 56; go_loud (refine (rget_at g o _ cv l 120 8 v _ (BV.out.chg Q_15.out OFF.out) (by have := HL4.out; omega) (by decide) (by decide) HV.out).mono ?_; rintro r w' ⟨rfl, rfl⟩))
      go_meet
      refine ⟨?_, Q_15.out.trans (Chg.setCell (B := fun b => b = w.heap.size + 1) (p := ⟨w.heap.size + 1, 15, none⟩) _ rfl _)⟩
      rw [rh_succ l 15 120 .u64 rfl]
      show _ = some (Obj.cells ((rh l 15).setIfInBounds 15 (Kd.val .u64 (Wire.getV (cutL l 120 8)))) _ _)
      rw [HV.out]
      exact heap_setCell_same _ _ _ _ _ _ X_15.out
    obtain ⟨hx, hc⟩ := hcut
    obtain ⟨wA16, eA⟩ : ∃ z, z = wc := ⟨_, rfl⟩
    subst eA
    have X_16 := Lib.hid hx; have Q_16 := Lib.hid hc
    clear hx hc
    have X_L := Lib.hid (show wA16.heap[w.heap.size + 1]? = some (.cells (rs l 0) 59 (0, 0)) by rw [rs_zero]; exact X_16.out)
    go_wp2
    go_loopw [6] (fun i wr => ∃ k : Nat, k ≤ 16 ∧ i = .int .i64 k ∧ Hid (wr.heap[w.heap.size + 1]? = some (.cells (rs l k) 59 (0, 0))) ∧ Hid (Chg (fun b => b = w.heap.size + 1) W wr)) (fun i _ => 16 - (intOf i).toNat)
    case atStart => exact ⟨0, by omega, rfl, X_L, Q_16⟩
    case round =>
      obtain ⟨k, hk, rfl, XR, CR⟩ := hrel
      by_cases hlt : k < 16
      · obtain ⟨y0, hy0⟩ : ∃ y, l[104 + k]? = some y := ⟨_, List.getElem?_eq_getElem (by have := HL4.out; omega)⟩
        obtain ⟨y1, hy1⟩ : ∃ y, l[130 + 4 * k]? = some y := ⟨_, List.getElem?_eq_getElem (by have := HL4.out; omega)⟩
        obtain ⟨y2, hy2⟩ : ∃ y, l[131 + 4 * k]? = some y := ⟨_, List.getElem?_eq_getElem (by have := HL4.out; omega)⟩
        obtain ⟨gm, hgm⟩ : ∃ v, Wire.getV (cutL l (128 + 4 * k) 2) = v := ⟨_, rfl⟩
        have hrs := rs_succ l k hlt
        rw [getV_one hy0, getV_one hy1, getV_one hy2, hgm] at hrs
        have HRS := Lib.hid hrs; have HGM := Lib.hid hgm; have HY1 := Lib.hid hy1; have HY2 := Lib.hid hy2
        have BVR := Lib.hid (BV.out.chg CR.out OFF.out)
        have hSZ := Lib.hid (rs_size l k)
        have cX := (cell_of_row _ _ (16 + k) _ _ _ XR.out).trans (Array.getElem?_eq_getElem (by rw [hSZ.out]; omega))
        have fX := frozen_of_row _ _ (16 + k) _ _ XR.out
        have c0 := BVR.out.cellAt hy0
        have hkb : (k : Int) < 16 := by omega
        have HLT := Lib.hid hlt
        clear hy0 hy1 hy2 hgm hrs
        go_upto_region 25 with (fail)
        obtain ⟨wa, hwa⟩ : ∃ z, z = wr.setCell ⟨w.heap.size + 1, 16 + k, none⟩ (.int .u8 (uv y0)) := ⟨_, rfl⟩
        have X1 := Lib.hid (show wa.heap[w.heap.size + 1]? = some (.cells ((rs l k).setIfInBounds (16 + k) (.int .u8 (uv y0))) 59 (0, 0)) by rw [hwa]; exact heap_setCell_same _ _ _ _ _ _ XR.out)
        have C1 := Lib.hid (CR.out.trans (show Chg (fun b => b = w.heap.size + 1) wr wa by rw [hwa]; exact Chg.setCell (B := fun b => b = w.heap.size + 1) (p := ⟨w.heap.size + 1, 16 + k, none⟩) _ rfl _))
        rw [← hwa]
        clear hwa cX fX c0
        have hnX : ¬ g = w.heap.size + 1 := by have := GL.out _ _ _ _ rfl; omega
        have BV1 := Lib.hid (BV.out.chg C1.out OFF.out)
        have hs0 : IntKind.i64.wrap (4 * (k : Int)) = 4 * (k : Int) := IntWalk.i64_in _ (by omega)
        have hs1 : IntKind.i64.wrap (128 + 4 * (k : Int)) = 128 + 4 * (k : Int) := IntWalk.i64_in _ (by omega)
        have hs2 : IntKind.i64.wrap (130 + 4 * (k : Int)) = 130 + 4 * (k : Int) := IntWalk.i64_in _ (by omega)
        have hs3 : IntKind.i64.wrap (131 + 4 * (k : Int)) = 131 + 4 * (k : Int) := IntWalk.i64_in _ (by omega)
        have ha2 : (0 : Int) ≤ 130 + 4 * (k : Int) := by omega
        have ha3 : (0 : Int) ≤ 131 + 4 * (k : Int) := by omega
        have hb2 : (130 + 4 * (k : Int)) < 4096 := by omega
        have hb3 : (131 + 4 * (k : Int)) < 4096 := by omega
        have ht2 : (130 + 4 * (k : Int)).toNat = 130 + 4 * k := by omega
        have ht3 : (131 + 4 * (k : Int)).toNat = 131 + 4 * k := by omega
        have q1 : ∀ z : KeepT (fun b => b = w.heap.size + 1) wa, z.val.cell? ⟨g, o + (130 + 4 * k), none⟩ = some (.int .u8 (uv y1)) := fun z => z.cell (BV1.out.cellAt HY1.out) hnX
        have q2 : ∀ z : KeepT (fun b => b = w.heap.size + 1) wa, z.val.cell? ⟨g, o + (131 + 4 * k), none⟩ = some (.int .u8 (uv y2)) := fun z => z.cell (BV1.out.cellAt HY2.out) hnX
        refine wp_region_planW (fun b => b = w.heap.size + 1) [(true, 0), (true, 1), (true, 2), (true, 3), (true, 4), (true, 7), (true, 8), (true, 9), (true, 10), (true, 11), (true, 12), (true, 13), (true, 14), (true, 15), (true, 16), (true, 17), (true, 18), (true, 20), (false, 5), (true, 6), (true, 19), (true, 21), (false, 22)] (by kernel_rfl) (by kernel_rfl) (by intro c a d v w h; cases d <;> exact h) ?_
        intro W1 K1 CW
        repeat (refine wpS_firm rfl (fun K hK => ?_); simp only [Keep]; go_simp; refine hK _ ?_; clear hK K)
        have X2 := Lib.hid (blk_below X1.out CW.out)
        have BV2 := Lib.hid (BV1.out.below CW.out)
        refine wpS_chain rfl ?_
        go_wp2_with (go_at_call 56; go_loud (rw [show (128 + 4 * (k : Int)) = ((128 + 4 * k : Nat) : Int) by omega]; refine (rget_at g o _ cv l (128 + 4 * k) 2 gm _ BV2.out (by have := HL4.out; have := HLT.out; omega) (by decide) (by decide) HGM.out).mono ?_; rintro r w' ⟨rfl, rfl⟩))
        refine ⟨K1.out, ?_⟩
        repeat (refine wpS_firm rfl (fun K hK => ?_); simp only [Keep]; go_simp; refine hK _ ?_; clear hK K)
        refine wpS_chain rfl ?_
        have TH := Lib.hid (show W1.there (w.heap.size + 1) (32 + k * 3) 3 from fun j hj => ⟨by rw [cell_of_row _ _ _ _ _ _ X2.out, Array.getElem?_eq_getElem (by rw [Array.size_setIfInBounds, rs_size]; have := HLT.out; omega)]; rfl, frozen_of_row _ _ _ _ _ X2.out⟩)
        go_wp2_with (refine wpList_store_mid rfl 56 (.tmp 108) (.tmp 106) rfl (w.heap.size + 1) (32 + k * 3) #[.int .u16 (uv (gm.setWidth 16)), .int .u8 (uv y1), .int .u8 (uv y2)] rfl rfl TH.out (by kernel_rfl) (by simp [Value.oneCell']) ?_)
        have C2 := Lib.hid (show Chg (fun b => b = w.heap.size + 1) W1 (W1.setCells (w.heap.size + 1) (32 + k * 3) [.int .u16 (uv (gm.setWidth 16)), .int .u8 (uv y1), .int .u8 (uv y2)]) from ((Chg.setCell (B := fun b => b = w.heap.size + 1) (p := ⟨w.heap.size + 1, 32 + k * 3, none⟩) _ rfl _).trans (Chg.setCell (B := fun b => b = w.heap.size + 1) (p := ⟨w.heap.size + 1, 32 + k * 3 + 1, none⟩) _ rfl _)).trans (Chg.setCell (B := fun b => b = w.heap.size + 1) (p := ⟨w.heap.size + 1, 32 + k * 3 + 1 + 1, none⟩) _ rfl _))
        have X3 := Lib.hid (show (W1.setCells (w.heap.size + 1) (32 + k * 3) [.int .u16 (uv (gm.setWidth 16)), .int .u8 (uv y1), .int .u8 (uv y2)]).heap[w.heap.size + 1]? = some (.cells (rs l (k + 1)) 59 (0, 0)) by
          rw [HRS.out, show 32 + 3 * k = 32 + k * 3 by omega]
          exact heap_setCell_same _ _ _ _ _ _ (heap_setCell_same _ _ _ _ _ _ (heap_setCell_same _ _ _ _ _ _ X2.out)))
        have C3 := Lib.hid ((C1.out.trans (Chg.of_below CW.out)).trans C2.out)
        clear q1 q2 hs0 hs1 hs2 hs3 ha2 ha3 hb2 hb3 ht2 ht3 hnX
        refine ⟨K1.out.chg C2.out (fun k h => .inl h), ?_⟩
        unfold wpS
        go_wp2
        go_roundw
        case rel => exact ⟨k + 1, by omega, by go_num, X3, C3⟩
        case measure => simp [intOf]; omega
      · obtain rfl : k = 16 := by omega
        obtain ⟨x, hx⟩ : ∃ x, rdNs l = x := ⟨_, rfl⟩
        have XC := Lib.hid (show wr.heap[w.heap.size + 1]? = some (.cells (NsL.cells x).toArray 59 (0, 0)) by have h := XR.out; rw [rs_end, hx] at h; exact h)
        have OKX := Lib.hid (show NsOk x by rw [← hx]; exact rdNs_ok HL4.out)
        have SZX := Lib.hid (show (NsL.cells x).toArray.size = 80 from ns_sz OKX.out)
        have HX := Lib.hid hx
        have BVR := Lib.hid (BV.out.chg CR.out OFF.out)
        have AR := Lib.hid (CR.out.blk XA.out (by omega))
        have DR := Lib.hid (CR.out.fresh D.out (fun k h => by omega))
        clear hx
        obtain ⟨t, ht⟩ : ∃ t, okNs x = t := ⟨_, rfl⟩
        have HT := Lib.hid ht
        clear ht
        cases t
        · obtain ⟨e1, e2⟩ : y = nsZ ∧ e = 6 := by
            have h := HD.out
            unfold decV at h
            rw [if_neg (by have := HL4.out; omega), if_neg (by have := HL4.out; omega), HX.out, HT.out] at h
            simp at h
            exact ⟨h.1.symm, h.2.symm⟩
          go_wp2_with (first
            | (refine wpList_load_row rfl 59 (.tmp 4) rfl (w.heap.size + 1) rfl 59 _ (0, 0) _ XC.out Try.underlying59 rfl (by rw [SZX.out]; kernel_rfl) ?_)
            | (go_at_call 23; go_loud (refine (rEncNs_at x 2 [] _ OKX.out (by unfold nsE; rw [HT.out]; rfl) (by unfold nsR; rw [HT.out]; rfl)).mono ?_; rintro r w2 ⟨u, rfl, hu, hw⟩; have A2 := Lib.hid (blk_below AR.out hw); have D2 := Lib.hid (gr_tr DR.out hw); clear hu hw))
            | (refine wpList_store_row rfl 59 (.tmp 2) (.tmp 123) rfl w.heap.size (NsL.cells nsZ).toArray rfl (by rw [NsL_lit]; rfl) 59 _ A2.out (by rw [SnsZ.out]; kernel_rfl) rfl (NsL.cells_one _) ?_))
          rw [e1, e2]
          exact bodyPost_ret (results_row_tmp rfl _ _ w.heap.size 59 (NsL.cells nsZ).toArray (0, 0) _ rfl (setRow_heap _ _ _ _ _ _ A2.out) Try.underlying59 rfl (by rw [SnsZ.out]; kernel_rfl)) rfl ⟨rfl, below_setRow D2.out (Nat.le_refl _) _⟩
        · obtain ⟨bq, hbq⟩ : ∃ b, (nsB x == l) = b := ⟨_, rfl⟩
          have HQ := Lib.hid hbq; clear hbq
          go_upto_region 27 with (first
            | (refine wpList_load_row rfl 59 (.tmp 4) rfl (w.heap.size + 1) rfl 59 _ (0, 0) _ XC.out Try.underlying59 rfl (by rw [SZX.out]; kernel_rfl) ?_)
            | (go_at_call 23; go_loud (refine (rEncNs_at x 0 (nsB x) _ OKX.out (by unfold nsE; rw [HT.out]; rfl) (by unfold nsR; rw [HT.out]; rfl)).mono ?_; rintro r w2 ⟨u, rfl, hu, hw⟩; have U := Lib.hid hu; have A2 := Lib.hid (blk_below AR.out hw); have X2 := Lib.hid (blk_below XC.out hw); have BV2 := Lib.hid (BVR.out.below hw); have D2 := Lib.hid (gr_tr DR.out hw); clear hu hw)))
          have hs1 := str_at U.out
          have hs2 := str_at BV2.out
          have h3 : ((strOf (nsB x)).toList == (strOf l).toList) = bq := by rw [strOf_beq]; exact HQ.out
          have h4 : ((strOf (nsB x)).toList != (strOf l).toList) = !bq := by rw [bne, h3]
          cases bq
          · obtain ⟨e1, e2⟩ : y = nsZ ∧ e = 6 := by
              have h := HD.out
              unfold decV at h
              rw [if_neg (by have := HL4.out; omega), if_neg (by have := HL4.out; omega), HX.out, HQ.out] at h
              simp at h
              exact ⟨h.1.symm, h.2.symm⟩
            go_wp2_with (refine wpList_store_row rfl 59 (.tmp 2) (.tmp 123) rfl w.heap.size (NsL.cells nsZ).toArray rfl (by rw [NsL_lit]; rfl) 59 _ A2.out (by rw [SnsZ.out]; kernel_rfl) rfl (NsL.cells_one _) ?_)
            rw [e1, e2]
            exact bodyPost_ret (results_row_tmp rfl _ _ w.heap.size 59 (NsL.cells nsZ).toArray (0, 0) _ rfl (setRow_heap _ _ _ _ _ _ A2.out) Try.underlying59 rfl (by rw [SnsZ.out]; kernel_rfl)) rfl ⟨rfl, below_setRow D2.out (Nat.le_refl _) _⟩
          · obtain ⟨e1, e2⟩ : y = x ∧ e = 0 := by
              have h := HD.out
              unfold decV at h
              rw [if_neg (by have := HL4.out; omega), if_neg (by have := HL4.out; omega), HX.out, HQ.out, HT.out] at h
              simp at h
              exact ⟨h.1.symm, h.2.symm⟩
            go_wp2_with (first
              | (refine wpList_load_row rfl 59 (.tmp 4) rfl (w.heap.size + 1) rfl 59 _ (0, 0) _ X2.out Try.underlying59 rfl (by rw [SZX.out]; kernel_rfl) ?_)
              | (refine wpList_store_row rfl 59 (.tmp 2) (.tmp 124) rfl w.heap.size (NsL.cells x).toArray rfl rfl 59 _ A2.out (by rw [SZX.out]; kernel_rfl) (by rw [SZX.out, SnsZ.out]) (NsL.cells_one _) ?_))
            rw [e1, e2]
            exact bodyPost_ret (results_row_tmp rfl _ _ w.heap.size 59 (NsL.cells x).toArray (0, 0) _ rfl (setRow_heap _ _ _ _ _ _ A2.out) Try.underlying59 rfl (by rw [SZX.out]; kernel_rfl)) rfl ⟨rfl, below_setRow D2.out (Nat.le_refl _) _⟩
  · by_cases p1 : l.length < 4096
    · have ec : (if l.length < 4096 then (4 : Int) else if 4096 < l.length then 5 else 0) = 4 := by rw [if_pos p1]
      have EC := Lib.hid ec; clear ec
      go_enter Try.func25, Try.ntmps25
      go_upto_region 2 with (fail)
      rw [← HW.out]
      go_wp2_with (first
        | (go_at_call 51; go_loud (refine (check_any _ l 4 _ (BV0.out.below D.out) EC.out).mono ?_; rintro r w' ⟨rfl, rfl⟩))
        | (refine wpList_load_row rfl 59 (.tmp 4) rfl (w.heap.size + 1) rfl 59 _ (0, 0) _ XB.out Try.underlying59 rfl (by rw [SnsZ.out]; kernel_rfl) ?_)
        | (refine wpList_store_row rfl 59 (.tmp 2) (.tmp 13) rfl w.heap.size (NsL.cells nsZ).toArray rfl rfl 59 _ XA.out (by rw [SnsZ.out]; kernel_rfl) rfl (NsL.cells_one _) ?_))
      obtain ⟨e1, e2⟩ : y = nsZ ∧ e = 4 := by
        have h := HD.out
        unfold decV at h
        rw [if_pos p1] at h
        simp at h
        exact ⟨h.1.symm, h.2.symm⟩
      rw [e1, e2]
      exact bodyPost_ret (results_row_tmp rfl _ _ w.heap.size 59 (NsL.cells nsZ).toArray (0, 0) _ rfl (setRow_heap _ _ _ _ _ _ XA.out) Try.underlying59 rfl (by rw [SnsZ.out]; kernel_rfl)) rfl ⟨rfl, below_setRow D.out (Nat.le_refl _) _⟩
    · have ec : (if l.length < 4096 then (4 : Int) else if 4096 < l.length then 5 else 0) = 5 := by rw [if_neg p1, if_pos (by omega)]
      have EC := Lib.hid ec; clear ec
      go_enter Try.func25, Try.ntmps25
      go_upto_region 2 with (fail)
      rw [← HW.out]
      go_wp2_with (first
        | (go_at_call 51; go_loud (refine (check_any _ l 5 _ (BV0.out.below D.out) EC.out).mono ?_; rintro r w' ⟨rfl, rfl⟩))
        | (refine wpList_load_row rfl 59 (.tmp 4) rfl (w.heap.size + 1) rfl 59 _ (0, 0) _ XB.out Try.underlying59 rfl (by rw [SnsZ.out]; kernel_rfl) ?_)
        | (refine wpList_store_row rfl 59 (.tmp 2) (.tmp 13) rfl w.heap.size (NsL.cells nsZ).toArray rfl rfl 59 _ XA.out (by rw [SnsZ.out]; kernel_rfl) rfl (NsL.cells_one _) ?_))
      obtain ⟨e1, e2⟩ : y = nsZ ∧ e = 5 := by
        have h := HD.out
        unfold decV at h
        rw [if_neg p1, if_pos (by omega)] at h
        simp at h
        exact ⟨h.1.symm, h.2.symm⟩
      rw [e1, e2]
      exact bodyPost_ret (results_row_tmp rfl _ _ w.heap.size 59 (NsL.cells nsZ).toArray (0, 0) _ rfl (setRow_heap _ _ _ _ _ _ XA.out) Try.underlying59 rfl (by rw [SnsZ.out]; kernel_rfl)) rfl ⟨rfl, below_setRow D.out (Nat.le_refl _) _⟩
end Go.Proofs.Ytccllneifkeimaa
