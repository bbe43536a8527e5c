/- identify.ActiveList. -/
import Derived.Test.YthnnopjakpjoeaaDoorIdE
import Derived.Test.YthnnopjakpjoeaaDoorIdRise
namespace Go.Proofs.YthnnopjakpjoeaaDoor
open Go.RowKit Idn Rise
set_option linter.unusedVariables false
set_option linter.unusedSimpArgs false
namespace Idn
def above (a : BitVec 32) (x : BitVec 32) : Bool := decide (uv a < uv x)
/-- What the first k identifiers bring. -/
def sel (l : List (BitVec 32)) (a : BitVec 32) (k : Nat) : List (BitVec 32) := ((l.take k).filter (above a)).take 1024
def places4 (ys : List (BitVec 32)) : List (Nat × List (BitVec 8)) := ys.zipIdx.map fun p => (4 * p.2, Wire.le (p.1.setWidth 64) 4)
def actB (l : List (BitVec 32)) (a : BitVec 32) : List (BitVec 8) := Lay.lays zeros (places4 (sel l a l.length))
def OkL (l : List (BitVec 32)) : Prop := Strict l ∧ ∀ x, l[0]? = some x → x ≠ 0#32
theorem places4_snoc (ys : List (BitVec 32)) (y : BitVec 32) : places4 (ys ++ [y]) = places4 ys ++ [(4 * ys.length, Wire.le (y.setWidth 64) 4)] := by
  unfold places4; rw [List.zipIdx_append, List.map_append]; simp
theorem sel_no (l : List (BitVec 32)) (a : BitVec 32) (k : Nat) (x : BitVec 32) (h : l[k]? = some x) (hx : above a x = false) : sel l a (k + 1) = sel l a k := by
  obtain ⟨hk, rfl⟩ := List.getElem?_eq_some_iff.1 h
  unfold sel
  rw [List.take_succ_eq_append_getElem hk, List.filter_append]
  simp [hx]
theorem sel_yes (l : List (BitVec 32)) (a : BitVec 32) (k : Nat) (x : BitVec 32) (h : l[k]? = some x) (hx : above a x = true) (hn : (sel l a k).length < 1024) : sel l a (k + 1) = sel l a k ++ [x] := by
  obtain ⟨hk, rfl⟩ := List.getElem?_eq_some_iff.1 h
  unfold sel at hn ⊢
  rw [List.take_succ_eq_append_getElem hk, List.filter_append]
  have h2 : ((l.take k).filter (above a)).length < 1024 := by rw [List.length_take] at hn; omega
  rw [List.take_of_length_le (l := (l.take k).filter (above a)) (by omega)]
  rw [show List.filter (above a) [l[k]] = [l[k]] by simp [hx]]
  rw [List.take_of_length_le (by rw [List.length_append, List.length_singleton]; omega)]
theorem sel_full (l : List (BitVec 32)) (a : BitVec 32) (k : Nat) (x : BitVec 32) (h : l[k]? = some x) (hn : ¬ (sel l a k).length < 1024) : sel l a (k + 1) = sel l a k := by
  obtain ⟨hk, rfl⟩ := List.getElem?_eq_some_iff.1 h
  unfold sel at hn ⊢
  rw [List.take_succ_eq_append_getElem hk, List.filter_append]
  rw [List.take_append_of_le_length (by rw [List.length_take] at hn; omega)]
theorem sel_len (l : List (BitVec 32)) (a : BitVec 32) (k : Nat) : (sel l a k).length ≤ 1024 := by unfold sel; rw [List.length_take]; omega
end Idn
theorem Act_no (v : Value) (l : List (BitVec 32)) (a : BitVec 32) (w : World) (hv : SliceV w (fun y : BitVec 32 => [Value.int .u32 (uv y)]) v l) (hl : l.length ≤ 1000000) (h : ¬ OkL l) :
    Calls Tryd.prog 67 #[v, .int .u32 (uv a)] w fun e w' => e = .returned (.tuple #[.slice none 0 0, .int .i64 2]) ∧ Below w.heap.size w w' := by
  have V := Lib.hid hv
  obtain ⟨av, c, rfl, -, hlc, hc, hrow⟩ := id hv
  have ROW := Lib.hid (nu32_row hrow)
  by_cases hs : Strict l
  · obtain ⟨hd, h0⟩ : l[0]? = some 0#32 ∧ True := by
      refine ⟨?_, trivial⟩
      by_cases h0 : l[0]? = some 0#32
      · exact h0
      · exact absurd ⟨hs, fun x hx e => h0 (e ▸ hx)⟩ h
    have hpos : 0 < l.length := (List.getElem?_eq_some_iff.1 hd).1
    obtain ⟨g, o, rfl, c0⟩ := ROW.out.at (i := 0) (v := .int .u32 (uv 0#32)) (by rw [nu32_get, hd]; rfl)
    have hposi : decide ((0 : Int) < (l.length : Int)) = true := decide_eq_true (by omega)
    have RI := Lib.hid (rising_u32 _ l true w hv hl (by simp [hs]))
    have C0 := Lib.hid (show w.cell? ⟨g, o, none⟩ = some (.int .u32 0) from c0)
    clear hv h hs hd hrow c0
    go_enter Tryd.func67, Tryd.ntmps67
    go_wp2_with (go_at_call 125; go_loud (refine RI.out.mono ?_; rintro r w1 ⟨rfl, hw⟩; have B1 := Lib.hid hw; have c1 : w1.cell? ⟨g, o, none⟩ = some (.int .u32 0) := (hw.cell (p := ⟨g, o, none⟩) (block_lt_of_cell C0.out)).trans C0.out; clear hw))
    go_ret2
    exact ⟨rfl, B1.out⟩
  · have RI := Lib.hid (rising_u32 _ l false w hv hl (by simp [hs]))
    clear hv h hs hrow
    go_enter Tryd.func67, Tryd.ntmps67
    go_wp2_with (go_at_call 125; go_loud (refine RI.out.mono ?_; rintro r w1 ⟨rfl, hw⟩; have B1 := Lib.hid hw; clear hw))
    go_ret2
    exact ⟨rfl, B1.out⟩
set_option maxHeartbeats 1600000 in
set_option maxRecDepth 8000 in
theorem Act_ok (v : Value) (l : List (BitVec 32)) (a : BitVec 32) (w : World) (hv : SliceV w (fun y : BitVec 32 => [Value.int .u32 (uv y)]) v l) (hl : l.length ≤ 1000000) (h : OkL l) :
    Calls Tryd.prog 67 #[v, .int .u32 (uv a)] w fun e w' => ∃ g, e = .returned (.tuple #[.slice (some ⟨g, 0, none⟩) 4096 4096, .int .i64 0]) ∧ Own4 w' w.heap.size g 4096 (actB l a) ∧ Below w.heap.size w w' := by
  have V := Lib.hid hv
  obtain ⟨av, c, rfl, -, hlc, hc, hrow⟩ := id hv
  have ROW := Lib.hid (nu32_row hrow)
  have hm : l.length ≤ 9223372036854775807 := by omega
  have RI := Lib.hid (rising_u32 _ l true w hv hl (by simp [h.1]))
  have HD := Lib.hid h.2
  clear hv h hrow
  obtain ⟨av', hav⟩ : ∃ x, x = av := ⟨_, rfl⟩
  have key : l = [] ∨ ∃ (g o : Nat) (y : BitVec 32), av = some ⟨g, o, none⟩ ∧ 0 < l.length ∧ w.cell? ⟨g, o, none⟩ = some (.int .u32 (uv y)) ∧ (uv y == 0) = false := by
    by_cases h0 : l = []
    · exact .inl h0
    · have hpos := List.length_pos_iff.2 h0
      obtain ⟨y, hy⟩ : ∃ y, l[0]? = some y := ⟨_, List.getElem?_eq_getElem hpos⟩
      obtain ⟨g, o, e, c0⟩ := ROW.out.at (i := 0) (v := .int .u32 (uv y)) (by rw [nu32_get, hy]; rfl)
      refine .inr ⟨g, o, y, e, hpos, c0, ?_⟩
      have := HD.out y hy
      rw [show (0 : Int) = uv 0#32 from rfl, uv_beq]
      simpa using this
  clear hav av'
  by_cases hl0 : l.length = 0
  · have hle : l = [] := List.length_eq_zero_iff.1 hl0
    have hposi : decide ((0 : Int) < (l.length : Int)) = false := decide_eq_false (by omega)
    have hposn : decide (0 < l.length) = false := decide_eq_false (by omega)
    have HL0 := Lib.hid hl0
    clear hle key hl0
    go_enter Tryd.func67, Tryd.ntmps67
    go_upto_region 5 with (first
      | (go_at_call 125; go_loud (refine RI.out.mono ?_; rintro r w1 ⟨rfl, hw⟩; have B1 := Lib.hid hw; clear hw))
      | (refine make_law bytesOk rfl _ _ rfl w1.heap.size .i64 .i64 4096 4096 4096 rfl rfl rfl rfl (by omega) (by omega) (Nat.le_refl _) ?_; intro w2 hown hgrow; have O := Lib.hid (show Own4 w2 w1.heap.size w1.heap.size 4096 zeros by have h := hown; rw [by8_made] at h; exact h); have B2 := Lib.hid (B1.out.grown hgrow B1.out.size (by intro k hk; cases hk)); clear hgrow hown))
    go_wp2
    go_loopw [7, 27] (fun nn i wr => ∃ (k : Nat) (S : List (BitVec 32)), k ≤ l.length ∧ i = .int .i64 k ∧ nn = .int .i64 S.length ∧ Hid (sel l a k = S) ∧ Own4 wr w1.heap.size w1.heap.size 4096 (Lay.lays zeros (places4 S)) ∧ Below w.heap.size w wr) (fun _ i _ => l.length - (intOf i).toNat)
    case atStart => exact ⟨0, [], by omega, rfl, rfl, rfl, (by rw [show places4 [] = [] from rfl, Lay.lays_nil]; exact O.out), B2.out⟩
    case round =>
      obtain ⟨k, S, hk, rfl, rfl, hS, ho, hb⟩ := hrel
      have OW := Lib.hid ho; have B := Lib.hid hb; clear ho hb
      by_cases hlt : k < l.length
      · exact absurd hlt (by rw [HL0.out]; omega)
      · obtain rfl : k = l.length := by omega
        have HFIN := Lib.hid hS.out
        go_wp2
        go_ret2
        refine ⟨_, rfl, ?_, B.out⟩
        have h := OW.out
        rw [← HFIN.out] at h
        exact own_base h B1.out.size
  · obtain ⟨g, o, y, rfl, hpos, c0, hy⟩ : ∃ (g o : Nat) (y : BitVec 32), av = some ⟨g, o, none⟩ ∧ 0 < l.length ∧ w.cell? ⟨g, o, none⟩ = some (.int .u32 (uv y)) ∧ (uv y == 0) = false := by
      rcases key with h | h
      · exact absurd (by rw [h]; rfl) hl0
      · exact h
    have hposi : decide ((0 : Int) < (l.length : Int)) = true := decide_eq_true (by omega)
    have hposn : decide (0 < l.length) = true := decide_eq_true hpos
    have C0 := Lib.hid c0; clear c0 hl0
    go_enter Tryd.func67, Tryd.ntmps67
    go_upto_region 5 with (first
      | (go_at_call 125; go_loud (refine RI.out.mono ?_; rintro r w1 ⟨rfl, hw⟩; have B1 := Lib.hid hw; have c1 : w1.cell? ⟨g, o, none⟩ = some (.int .u32 (uv y)) := (hw.cell (p := ⟨g, o, none⟩) (block_lt_of_cell C0.out)).trans C0.out; clear hw))
      | (refine make_law bytesOk rfl _ _ rfl w1.heap.size .i64 .i64 4096 4096 4096 rfl rfl rfl rfl (by omega) (by omega) (Nat.le_refl _) ?_; intro w2 hown hgrow; have O := Lib.hid (show Own4 w2 w1.heap.size w1.heap.size 4096 zeros by have h := hown; rw [by8_made] at h; exact h); have B2 := Lib.hid (B1.out.grown hgrow B1.out.size (by intro k hk; cases hk)); clear hgrow hown))
    go_wp2
    go_loopw [7, 27] (fun nn i wr => ∃ (k : Nat) (S : List (BitVec 32)), k ≤ l.length ∧ i = .int .i64 k ∧ nn = .int .i64 S.length ∧ Hid (sel l a k = S) ∧ Own4 wr w1.heap.size w1.heap.size 4096 (Lay.lays zeros (places4 S)) ∧ Below w.heap.size w wr) (fun _ i _ => l.length - (intOf i).toNat)
    case atStart => exact ⟨0, [], by omega, rfl, rfl, rfl, (by rw [show places4 [] = [] from rfl, Lay.lays_nil]; exact O.out), B2.out⟩
    case round =>
      clear c1
      obtain ⟨k, S, hk, rfl, rfl, hS, ho, hb⟩ := hrel
      have OW := Lib.hid ho; have B := Lib.hid hb; clear ho hb
      by_cases hlt : k < l.length
      · obtain ⟨x, hx⟩ : ∃ y, l[k]? = some y := ⟨_, List.getElem?_eq_getElem hlt⟩
        obtain ⟨g', o', ee, cx⟩ := (ROW.out.below B.out).at (i := k) (v := .int .u32 (uv x)) (by rw [nu32_get, hx]; rfl)
        cases ee
        have HX := Lib.hid hx; clear hx
        go_upto_region 8 with (fail)
        obtain ⟨W, hW⟩ : ∃ W, W = wr.alloc (.cells #[.int .u32 (uv x)] 24) := ⟨_, rfl⟩
        have BW := Lib.hid (show Below wr.heap.size wr W by rw [hW]; exact gr_alloc wr _)
        have c9 : W.cell? ⟨wr.heap.size, 0, none⟩ = some (.int .u32 (uv x)) := by rw [hW]; exact (cell_of_row _ _ 0 _ _ _ (heap_alloc_new wr _)).trans rfl
        rw [← hW]
        have HXW := Lib.hid (show wr.heap.size < W.heap.size by rw [hW]; simp)
        have C9 := Lib.hid c9
        have OX := Lib.hid (OW.out.below BW.out)
        have BX := Lib.hid (B.out.trans (BW.out.mono B.out.size))
        clear hW cx
        obtain ⟨r, hr⟩ : ∃ r, decide (uv a < uv x) = r := ⟨_, rfl⟩
        have HR := Lib.hid (show above a x = r from hr)
        cases r
        · go_wp2
          go_roundw
          case rel => exact ⟨k + 1, S, by omega, by go_num, rfl, Lib.hid (by rw [sel_no l a k x HX.out HR.out]; exact hS.out), OX.out, BX.out⟩
          case measure => simp [intOf]; omega
        · by_cases hn : S.length < 1024
          · have d1 : decide ((S.length : Int) < 1024) = true := decide_eq_true (by omega)
            have d2 : decide (S.length < 1024) = true := decide_eq_true hn
            have HN := Lib.hid hn
            obtain ⟨ie, i1, i2, i3, -⟩ := placesOk.info
            have I1 := Lib.hid i1; have I2 := Lib.hid i2; have I3 := Lib.hid i3
            have h4 : (0 : Int) ≤ 4 * (S.length : Int) := by omega
            have hsl : (S.length : Int) ≤ 1024 := by omega
            have H4 := Lib.hid h4
            clear i1 i2 i3 hn
            go_wp2_with (first
              | (go_at_call 126; go_loud (refine (at_u32i wr.heap.size 0 (4 * (S.length : Int)) H4.out _).mono ?_; rintro r w3 ⟨bx, rfl, hbx, hok, hw⟩; have OKP := Lib.hid hok; have HBX := Lib.hid hbx; have O3 := Lib.hid (OX.out.below hw); have B3 := Lib.hid (BX.out.trans (hw.mono BX.out.size)); have C3 := Lib.hid ((hw.cell (p := ⟨wr.heap.size, 0, none⟩) HXW.out).trans C9.out); have S3 := Lib.hid hw.size; clear hbx hok hw))
              | (refine wpList_buildSlice rfl 152 224 1 _ rfl (([⟨(4 * (S.length : Int)).toNat, .u32, wr.heap.size, 0, bx⟩] : List Pl).flatMap Pl.cells).toArray ie _ placesOk.under I1.out I2.out (by rw [I3.out]; decide) (by rw [I3.out]; decide) (by rw [I3.out]; kernel_rfl) ?_; have SV := Lib.hid (SliceV.of_cells (f := plC) w3 [(⟨(4 * (S.length : Int)).toNat, .u32, wr.heap.size, 0, bx⟩, x.setWidth 64)] ((([⟨(4 * (S.length : Int)).toNat, .u32, wr.heap.size, 0, bx⟩] : List Pl).flatMap Pl.cells).toArray) 224 1 rfl (by omega) rfl))
              | (go_at_call 84; go_loud (refine (store_any w1.heap.size 4096 w1.heap.size (Lay.lays zeros (places4 S)) _ [(⟨(4 * (S.length : Int)).toNat, .u32, wr.heap.size, 0, bx⟩, x.setWidth 64)] _ (O3.out.below (gr_alloc w3 _)) SV.out (fun g o n c e h => by cases e; have := O3.out.lt.2; omega) (fun q hq => by simp at hq; subst hq; exact ⟨OKP.out.below (gr_alloc w3 _), ((gr_alloc w3 _).cell (p := ⟨wr.heap.size, 0, none⟩) (Nat.lt_of_lt_of_le HXW.out S3.out)).trans (by rw [(val32 x).1]; exact C3.out), (val32 x).2, (show bx ≠ w1.heap.size by have := OX.out.lt.2; have := HBX.out; omega), (show wr.heap.size ≠ w1.heap.size by have := OW.out.lt.2; omega), (show (4 * (S.length : Int)).toNat + 4 ≤ 4096 by have := HN.out; omega)⟩)).mono ?_; rintro r w4 ⟨rfl, ho, hc⟩; have O4 := Lib.hid (show Own4 w4 w1.heap.size w1.heap.size 4096 (Lay.lays zeros (places4 (S ++ [x]))) by rw [places4_snoc, Lay.lays_append]; have h := ho; simp only [List.map_cons, List.map_nil, plB] at h; rw [show (4 * (S.length : Int)).toNat = 4 * S.length by omega] at h; exact h); have B4 := Lib.hid (hc.fresh (B3.out.trans ((gr_alloc w3 (.cells ((([⟨(4 * (S.length : Int)).toNat, .u32, wr.heap.size, 0, bx⟩] : List Pl).flatMap Pl.cells).toArray) 224)).mono B3.out.size)) (fun k hk => by have := B1.out.size; omega)); clear ho hc)))
            go_roundw
            case rel => exact ⟨k + 1, S ++ [x], by omega, by go_num, by rw [List.length_append, List.length_singleton]; go_num, Lib.hid (by rw [sel_yes l a k x HX.out HR.out (by rw [hS.out]; exact HN.out), hS.out]), O4.out, B4.out⟩
            case measure => simp [intOf]; omega
          · have d1 : decide ((S.length : Int) < 1024) = false := decide_eq_false (by omega)
            have d2 : decide (S.length < 1024) = false := decide_eq_false hn
            have HN := Lib.hid hn
            clear hn
            go_wp2
            go_roundw
            case rel => exact ⟨k + 1, S, by omega, by go_num, rfl, Lib.hid (by rw [sel_full l a k x HX.out (by rw [hS.out]; exact HN.out)]; exact hS.out), OX.out, BX.out⟩
            case measure => simp [intOf]; omega
      · obtain rfl : k = l.length := by omega
        have HFIN := Lib.hid hS.out
        go_wp2
        go_ret2
        refine ⟨_, rfl, ?_, B.out⟩
        have h := OW.out
        rw [← HFIN.out] at h
        exact own_base h B1.out.size
end Go.Proofs.YthnnopjakpjoeaaDoor
