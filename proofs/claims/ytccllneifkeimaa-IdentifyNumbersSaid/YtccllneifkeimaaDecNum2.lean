/- DecodeControllers (main): decoded at []uint16. -/
import Derived.Test.YtccllneifkeimaaDecNum
namespace Go.Proofs.Ytccllneifkeimaa
open Go.RowKit Idn Rise
set_option linter.unusedVariables false
set_option linter.unusedSimpArgs false
theorem EncN2_ok (v : Value) (x : List (BitVec 16)) (w : World) (hv : SliceV w S16 v x) (h : okN x = true) : Calls Try.prog 65 #[v] w fun e w' => ∃ u, e = .returned (.tuple #[u, .int .i64 0]) ∧ BytesV w' u (numB x) ∧ Below w.heap.size w w' := by
  have V := Lib.hid hv; have H := Lib.hid h
  obtain ⟨a, c, rfl, -⟩ := id hv
  clear hv h
  go_enter Try.func65, Try.ntmps65
  go_wp2_with (go_at_call 30; go_loud (refine (EncN_ok _ x _ V.out H.out).mono ?_; rintro r w3 ⟨g, rfl, hu, hw⟩; have U := Lib.hid hu.bytes; have D := Lib.hid hw; clear hu hw))
  go_ret2
  exact ⟨_, rfl, U.out, D.out⟩
theorem EncN2_no (v : Value) (x : List (BitVec 16)) (w : World) (hv : SliceV w S16 v x) (hl : x.length ≤ 1000000) (h : okN x = false) : Calls Try.prog 65 #[v] w fun e w' => e = .returned (.tuple #[.slice none 0 0, .int .i64 2]) ∧ Below w.heap.size w w' := by
  have V := Lib.hid hv; have H := Lib.hid h
  obtain ⟨a, c, rfl, -⟩ := id hv
  clear hv h
  go_enter Try.func65, Try.ntmps65
  go_wp2_with (go_at_call 30; go_loud (refine (EncN_no _ x _ V.out hl H.out).mono ?_; rintro r w3 ⟨rfl, hw⟩; have D := Lib.hid hw; clear hw))
  go_ret2
  exact ⟨rfl, D.out⟩
theorem SliceV.nil16 (w : World) : SliceV w S16 (.slice none 0 0) [] := ⟨none, 0, rfl, fun _ => rfl, by simp, by simp, .inl rfl⟩
set_option maxHeartbeats 6400000 in
set_option maxRecDepth 100000 in
theorem decoded_N (l : List (BitVec 8)) (bv : Value) (bbox : Nat) (w : World) (y : List (BitVec 16)) (e : Int) (hb : BytesV w bv l) (hl : l.length ≤ 140737488355328) (hbb : w.heap[bbox]? = some (.cells #[bv] 28 (0, 0))) (hd : decV rdN okN numB [] l = (y, e)) :
    Calls Try.prog 63 #[bv, .func (.func 64) #[] #[.pointer (some ⟨bbox, 0, none⟩)], .func (.func 65) #[] #[]] w fun r w' => ∃ v, r = .returned (.tuple #[v, .int .i64 e]) ∧ SliceV w' S16 v y ∧ Below w.heap.size w w' := by
  obtain ⟨av, cv, rfl, hv0, hv1, hv2, hv3⟩ := id hb
  have hm : l.length ≤ 9223372036854775807 := by omega
  have BV := Lib.hid hb; have BB := Lib.hid hbb
  clear hb hbb hv0 hv1 hv2 hv3
  unfold decV at hd
  by_cases p1 : l.length < 4096
  · rw [if_pos p1] at hd
    cases hd
    have d1 : decide ((l.length : Int) < 4096) = true := decide_eq_true (by omega)
    clear p1
    go_enter Try.func63, Try.ntmps63
    go_wp2
    go_ret2
    exact ⟨_, rfl, SliceV.nil16 _, Below.refl _ _⟩
  · rw [if_neg p1] at hd
    by_cases p2 : 4096 < l.length
    · rw [if_pos p2] at hd
      cases hd
      have d1 : decide ((l.length : Int) < 4096) = false := decide_eq_false (by omega)
      have d2 : decide (4096 < (l.length : Int)) = true := decide_eq_true (by omega)
      clear p1 p2
      go_enter Try.func63, Try.ntmps63
      go_wp2
      go_ret2
      exact ⟨_, rfl, SliceV.nil16 _, Below.refl _ _⟩
    · rw [if_neg p2] at hd
      have d1 : decide ((l.length : Int) < 4096) = false := decide_eq_false (by omega)
      have d2 : decide (4096 < (l.length : Int)) = false := decide_eq_false (by omega)
      have hl4 : l.length = 4096 := by omega
      have HD := Lib.hid hd; have HL4 := Lib.hid hl4
      clear p1 p2 hd hl4
      obtain ⟨x, hx⟩ : ∃ x, rdN l = x := ⟨_, rfl⟩
      have HX := Lib.hid hx
      have HXL := Lib.hid (show x.length ≤ 1000000 by rw [← hx, rdN_len]; have := manyN_le l; omega)
      clear hx
      obtain ⟨bo, hbo⟩ : ∃ b, okN x = b := ⟨_, rfl⟩
      have HO := Lib.hid hbo; clear hbo
      obtain ⟨W, hW⟩ : ∃ W, W = w.alloc (.cells #[.slice none 0 0] 75) := ⟨_, rfl⟩
      have D := Lib.hid (show Below w.heap.size w W by rw [hW]; exact gr_alloc w _)
      have XB := Lib.hid (show W.heap[w.heap.size]? = some (.cells #[.slice none 0 0] 75 (0, 0)) by rw [hW]; exact heap_alloc_new w _)
      have HW := Lib.hid hW; clear hW
      have HBW := Lib.hid (Array.getElem?_eq_some_iff.1 BB.out).1
      have hgl : ∀ g o n c, Value.slice av l.length cv = .slice (some ⟨g, o, none⟩) n c → g < w.heap.size := slice_lt BV.out (by rw [HL4.out]; decide)
      have GL := Lib.hid hgl; clear hgl
      go_enter Try.func63, Try.ntmps63
      go_upto_region 6 with (fail)
      rw [← HW.out]
      go_upto_region 7 with (go_at_call 64; go_loud (refine (readN_at w.heap.size bbox _ l _ (BV.out.below D.out) HL4.out (blk_below BB.out D.out) (fun g o n c e h => by have := GL.out g o n c e; omega) (fun h => by have := HBW.out; omega) XB.out).mono ?_; rw [HX.out]; rintro r w3 ⟨rfl, ⟨v, hx3, hsv⟩, hc⟩; have X3 := Lib.hid hx3; have SV := Lib.hid hsv; have D3 := Lib.hid (hc.fresh D.out (fun k h => by omega)); have BV3 := Lib.hid (BV.out.below D3.out); clear hx3 hc hsv))
      have c3 := (cell_of_row _ _ 0 _ _ _ X3.out).trans (rfl : _ = some v)
      cases bo
      · go_wp2_with (go_at_call 65; go_loud (refine (EncN2_no v x _ SV.out HXL.out HO.out).mono ?_; rintro r w4 ⟨rfl, hw⟩; have D4 := Lib.hid (gr_tr D3.out hw); clear hw))
        go_ret2
        obtain ⟨e1, e2⟩ : y = [] ∧ e = 6 := by
          have h := HD.out
          rw [HX.out, HO.out] at h
          simp at h
          exact ⟨h.1, h.2.symm⟩
        rw [e1, e2]
        exact ⟨_, rfl, SliceV.nil16 _, D4.out⟩
      · obtain ⟨bq, hbq⟩ : ∃ b, (numB x == l) = b := ⟨_, rfl⟩
        have HQ := Lib.hid hbq; clear hbq
        cases bq
        · go_wp2_with (first
            | (go_at_call 65; go_loud (refine (EncN2_ok v x _ SV.out HO.out).mono ?_; rintro r w4 ⟨u, rfl, hu, hw⟩; have U := Lib.hid hu; have D4 := Lib.hid (gr_tr D3.out hw); have BV4 := Lib.hid (BV3.out.below hw); clear hu hw))
            | (go_at_call 79; go_loud (refine (Equal_at _ _ _ _ _ _ U.out BV4.out HQ.out).mono ?_; rintro r w5 ⟨rfl, rfl⟩)))
          go_ret2
          obtain ⟨e1, e2⟩ : y = [] ∧ e = 6 := by
            have h := HD.out
            rw [HX.out, HO.out, HQ.out] at h
            simp at h
            exact ⟨h.1, h.2.symm⟩
          rw [e1, e2]
          exact ⟨_, rfl, SliceV.nil16 _, D4.out⟩
        · go_wp2_with (first
            | (go_at_call 65; go_loud (refine (EncN2_ok v x _ SV.out HO.out).mono ?_; rintro r w4 ⟨u, rfl, hu, hw⟩; have U := Lib.hid hu; have D4 := Lib.hid (gr_tr D3.out hw); have BV4 := Lib.hid (BV3.out.below hw); have SV4 := Lib.hid (SV.out.below hw); have c4 := (hw.cell (p := ⟨w.heap.size, 0, none⟩) (block_lt_of_cell c3)).trans c3; clear hu hw))
            | (go_at_call 79; go_loud (refine (Equal_at _ _ _ _ _ _ U.out BV4.out HQ.out).mono ?_; rintro r w5 ⟨rfl, rfl⟩)))
          go_ret2
          obtain ⟨e1, e2⟩ : y = x ∧ e = 0 := by
            have h := HD.out
            rw [HX.out, HO.out, HQ.out] at h
            simp at h
            exact ⟨h.1.symm, h.2.symm⟩
          rw [e1, e2]
          exact ⟨_, rfl, SV4.out, D4.out⟩
set_option maxHeartbeats 6400000 in
set_option maxRecDepth 100000 in
theorem Decode_N (l : List (BitVec 8)) (bv : Value) (w : World) (y : List (BitVec 16)) (e : Int) (hb : BytesV w bv l) (hl : l.length ≤ 140737488355328) (hd : decV rdN okN numB [] l = (y, e)) :
    Calls Try.prog 32 #[bv] w fun r w' => ∃ v, r = .returned (.tuple #[v, .int .i64 e]) ∧ SliceV w' S16 v y ∧ Below w.heap.size w w' := by
  have hmf : ∀ (fn : Fn) (first cap : Array Value) (w : World), (Instr.makeFunc fn first cap).run Try.prog w = .ok (.func fn first cap) w := fun _ _ _ _ => rfl
  obtain ⟨av, cv, rfl, hv0, hv1, hv2, hv3⟩ := id hb
  have BV := Lib.hid (hb.below (gr_alloc w (.cells #[.slice av l.length cv] 28))); have HD := Lib.hid hd
  clear hb hd hv0 hv1 hv2 hv3
  go_enter Try.func32, Try.ntmps32
  go_wp2_with (go_at_call 63; go_loud (refine (decoded_N l _ w.heap.size _ y e BV.out hl (heap_alloc_new w _) HD.out).mono ?_; rintro r w3 ⟨v, rfl, hs, hw⟩; have S3 := Lib.hid hs; have D3 := Lib.hid (gr_tr (gr_alloc w _) hw); clear hs hw))
  go_ret2
  exact ⟨_, rfl, S3.out, D3.out⟩
end Go.Proofs.Ytccllneifkeimaa
