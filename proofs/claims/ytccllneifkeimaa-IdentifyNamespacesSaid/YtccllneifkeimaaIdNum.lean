/- identify.EncodeControllers: the plain part and the walk. -/
import Derived.Test.YtccllneifkeimaaIdList
import Derived.Test.YtccllneifkeimaaIdDec
namespace Go.Proofs.Ytccllneifkeimaa
open Go.RowKit Idn Rise
set_option linter.unusedVariables false
set_option linter.unusedSimpArgs false
abbrev S16 : BitVec 16 → List Value := fun y => [Value.int .u16 (uv y)]
namespace Idn
def strictB : List (BitVec 16) → Bool
  | a :: b :: r => decide (uv a < uv b) && strictB (b :: r)
  | _ => true
theorem strictB_iff : ∀ l : List (BitVec 16), strictB l = true ↔ Strict l
  | [] => by simp [strictB]; intro t a b h; simp at h
  | [x] => by
    simp [strictB]
    intro t a b h1 h2
    cases t <;> simp at h2
  | a :: b :: r => by
    simp only [strictB, Bool.and_eq_true, decide_eq_true_eq, strictB_iff (b :: r)]
    constructor
    · rintro ⟨h1, h2⟩ t x y hx hy
      cases t with
      | zero => simp at hx hy; subst hx; subst hy; exact h1
      | succ t => exact h2 t x y (by simpa using hx) (by simpa using hy)
    · intro h
      exact ⟨h 0 a b rfl rfl, fun t x y hx hy => h (t + 1) x y (by simpa using hx) (by simpa using hy)⟩
/-- Identifiers that can be encoded. -/
def okN (l : List (BitVec 16)) : Bool := decide (l.length ≤ 2047) && strictB l
def pl2 (ys : List (BitVec 16)) : List (Nat × List (BitVec 8)) := ys.zipIdx.map fun p => (2 * p.2, Wire.le (p.1.setWidth 64) 2)
theorem pl2_snoc (ys : List (BitVec 16)) (y : BitVec 16) : pl2 (ys ++ [y]) = pl2 ys ++ [(2 * ys.length, Wire.le (y.setWidth 64) 2)] := by
  unfold pl2; rw [List.zipIdx_append, List.map_append]; simp
/-- The numbers as they lie: their count ahead. -/
def hdN (l : List (BitVec 16)) : List (BitVec 16) := BitVec.ofNat 16 l.length :: l
def numB (l : List (BitVec 16)) : List (BitVec 8) := Lay.lays zeros (pl2 (hdN l))
theorem hdN_len (l : List (BitVec 16)) : (hdN l).length = l.length + 1 := rfl
theorem okN_iff (l : List (BitVec 16)) (b : Bool) (h : okN l = b) : b = true ↔ l.length ≤ 2047 ∧ Strict l := by
  subst h; unfold okN; rw [Bool.and_eq_true, decide_eq_true_eq, strictB_iff]
end Idn
set_option maxRecDepth 8000 in
theorem EncN_no (v : Value) (l : List (BitVec 16)) (w : World) (hv : SliceV w S16 v l) (hl : l.length ≤ 1000000) (h : okN l = false) :
    Calls Try.prog 30 #[v] w fun e w' => e = .returned (.tuple #[.slice none 0 0, .int .i64 2]) ∧ Below w.heap.size w w' := by
  obtain ⟨av, c, rfl, -, hlc, hc, hrow⟩ := id hv
  have hm : l.length ≤ 9223372036854775807 := by omega
  have hn := okN_iff l false h
  obtain ⟨r, hr⟩ : ∃ r, strictB l = r := ⟨_, rfl⟩
  have RI := Lib.hid (rising_u16 _ l r w hv hl (by rw [← hr]; exact strictB_iff l))
  cases r
  · clear hv hrow hn h hr hlc
    go_enter Try.func30, Try.ntmps30
    go_wp2_with (go_at_call 61; go_loud (refine RI.out.mono ?_; rintro r w1 ⟨rfl, hw⟩; have B1 := Lib.hid hw; clear hw))
    go_ret2
    exact ⟨rfl, B1.out⟩
  · have hbig : ¬ l.length ≤ 2047 := fun hb => by simpa using hn.2 ⟨hb, (strictB_iff l).1 hr⟩
    have d1 : decide ((2047 : Int) < (l.length : Int)) = true := decide_eq_true (by omega)
    have d2 : decide (2047 < l.length) = true := decide_eq_true (by omega)
    clear hv hrow hn h hr hbig hlc
    go_enter Try.func30, Try.ntmps30
    go_wp2_with (go_at_call 61; go_loud (refine RI.out.mono ?_; rintro r w1 ⟨rfl, hw⟩; have B1 := Lib.hid hw; clear hw))
    go_ret2
    exact ⟨rfl, B1.out⟩
theorem own16_lit (w : World) (y : BitVec 16) : (w.alloc (.cells #[.int .u16 (uv y)] 22)).ownsRow w.heap.size 22 1 (.slice (some ⟨w.heap.size, 0, none⟩) 1 1) 1 (nu16 [y]) :=
  ⟨rfl, .inr ⟨w.heap.size, 1, #[.int .u16 (uv y)], rfl, Nat.le_refl _, heap_alloc_new w _, Nat.le_refl _, by decide, by simp, rfl⟩⟩
theorem own_slice16 {w : World} {base : Nat} {v : Value} {l : List (BitVec 16)} (h : w.ownsRow base 22 1 v l.length (nu16 l)) : SliceV w S16 v l := by
  obtain ⟨h1, h2⟩ := id h
  rcases h2 with ⟨e1, e2⟩ | ⟨g, cap, cur, hv, hg, hh, r1, r2, r3, r4⟩
  · have : l = [] := List.length_eq_zero_iff.1 e2
    subst this; subst e1; exact ⟨none, 0, rfl, fun _ => rfl, by simp, by simp, .inl rfl⟩
  · subst hv
    exact ⟨_, cap, rfl, (by simp), r1, r2, by rw [flat_one]; exact Row.of_own ⟨h1, .inr ⟨g, cap, cur, rfl, hg, hh, r1, r2, r3, r4⟩⟩⟩
set_option maxHeartbeats 1600000 in
set_option maxRecDepth 8000 in
theorem EncN_ok (v : Value) (l : List (BitVec 16)) (w : World) (hv : SliceV w S16 v l) (h : okN l = true) :
    Calls Try.prog 30 #[v] w fun e w' => ∃ g, e = .returned (.tuple #[.slice (some ⟨g, 0, none⟩) 4096 4096, .int .i64 0]) ∧ Own4 w' w.heap.size g 4096 (numB l) ∧ Below w.heap.size w w' := by
  have hn := (okN_iff l true h).1 rfl
  have V := Lib.hid hv
  obtain ⟨av, c, rfl, h0, hlc, hc, hrow⟩ := id hv
  have hm : l.length ≤ 9223372036854775807 := by omega
  have RI := Lib.hid (rising_u16 _ l true w hv (by omega) (by simp [hn.2]))
  have d1 : decide ((2047 : Int) < (l.length : Int)) = false := decide_eq_false (by omega)
  have d2 : decide (2047 < l.length) = false := decide_eq_false (by omega)
  have HN := Lib.hid hn.1
  have ROW := Lib.hid (nu16_row hrow); have H0 := Lib.hid h0; have HLC := Lib.hid hlc
  have eu : uv (BitVec.ofInt 16 (l.length : Int)) = uv (BitVec.ofNat 16 l.length) := rfl
  have EU := Lib.hid eu
  clear hv hrow hn h h0 hlc eu
  go_enter Try.func30, Try.ntmps30
  go_upto_region 4 with (first
    | (go_at_call 61; go_loud (refine RI.out.mono ?_; rintro r w1 ⟨rfl, hw⟩; have B1 := Lib.hid hw; clear hw))
    | (refine make_law bytesOk rfl _ _ rfl w1.heap.size .i64 .i64 4096 4096 4096 rfl rfl rfl rfl (by omega) (by omega) (Nat.le_refl _) ?_; intro w2 hown hgrow; have O := Lib.hid (show Own4 w2 w1.heap.size w1.heap.size 4096 zeros by have h := hown; rw [by8_made] at h; exact h); have B2 := Lib.hid (B1.out.grown hgrow B1.out.size (by intro k hk; cases hk)); clear hgrow hown))
  have A2 := Lib.hid (gr_alloc w2 (.cells #[.int .u16 (uv (BitVec.ofNat 16 l.length))] 22))
  go_upto_region 5 with (at_builtin; refine app_law ownu16 rfl (.tmp 19) (.tmp 20) rfl w2.heap.size _ 1 (nu16 [BitVec.ofNat 16 l.length]) rfl (own16_lit w2 _) av l.length c (nu16 l) rfl H0.out HLC.out (ROW.out.below (B2.out.trans (A2.out.mono B2.out.size))) (by simp [nu16]) (nu16_one l) (by have := HN.out; omega) (by have := HN.out; omega) A2.out.size ?_; intro v3 w3 hown hgrow _; obtain ⟨g3, c3, rfl, hg3, hc3, hc3'⟩ := own_addrR hown (by omega); have OM := Lib.hid (show w3.ownsRow w2.heap.size 22 1 (.slice (some ⟨g3, 0, none⟩) (1 + l.length) c3) (hdN l).length (nu16 (hdN l)) by rw [hdN_len, Nat.add_comm l.length 1]; exact hown); have B23 := Lib.hid (A2.out.grown hgrow A2.out.size (fun k hk => by cases hk; exact Nat.le_refl _)); have G3 := Lib.hid hg3; clear hown hgrow hg3 hc3)
  have O3 := Lib.hid (O.out.below B23.out)
  have B3 := Lib.hid (B2.out.trans (B23.out.mono B2.out.size))
  have SM := Lib.hid (own_slice16 OM.out)
  obtain ⟨M, hM⟩ : ∃ M, hdN l = M := ⟨_, rfl⟩
  have hML : M.length = l.length + 1 := by rw [← hM]; rfl
  rw [hM] at SM
  rw [show 1 + l.length = M.length by omega] at SM ⊢
  try rw [show (1 : Int) + (l.length : Int) = (M.length : Int) by omega]
  have HM := Lib.hid hM; have HML := Lib.hid hML
  have hm2 : (M.length : Int) ≤ 2048 := by have := HN.out; omega
  clear hM hML OM
  go_loopw [23] (fun i wr => ∃ k : Nat, k ≤ M.length ∧ i = .int .i64 k ∧ Own4 wr w1.heap.size w1.heap.size 4096 (Lay.lays zeros (pl2 (M.take k))) ∧ SliceV wr S16 (.slice (some ⟨g3, 0, none⟩) M.length c3) M ∧ Below w.heap.size w wr) (fun i _ => M.length - (intOf i).toNat)
  case atStart => exact ⟨0, by omega, rfl, (by rw [List.take_zero, show pl2 [] = [] from rfl, Lay.lays_nil]; exact O3.out), SM.out, B3.out⟩
  case round =>
    obtain ⟨k, hk, rfl, ho, hs, hb⟩ := hrel
    have OW := Lib.hid ho; have SW := Lib.hid hs; have B := Lib.hid hb; clear ho hs hb
    by_cases hlt : k < M.length
    · obtain ⟨x, hx⟩ : ∃ y, M[k]? = some y := ⟨_, List.getElem?_eq_getElem hlt⟩
      obtain ⟨a5, c5, e5, -, -, -, hrow5⟩ := SW.out
      obtain ⟨g', o', ee, cx⟩ := (nu16_row hrow5).at (i := k) (v := .int .u16 (uv x)) (by rw [nu16_get, hx]; rfl)
      injection e5 with e6 e7 e8
      rw [ee] at e6
      injection e6 with e6
      injection e6 with e9 e10
      subst e9 e10
      have hsnoc : pl2 (M.take (k + 1)) = pl2 (M.take k) ++ [(2 * k, Wire.le (x.setWidth 64) 2)] := by
        obtain ⟨h1, h2⟩ := List.getElem?_eq_some_iff.1 hx
        rw [List.take_succ_eq_append_getElem h1, h2, pl2_snoc, List.length_take, Nat.min_eq_left (Nat.le_of_lt h1)]
      have HSN := Lib.hid hsnoc
      rw [Nat.zero_add] at cx
      clear hx hsnoc e7 e8 ee hrow5
      go_upto_region 7 with (fail)
      obtain ⟨W, hW⟩ : ∃ W, W = wr.alloc (.cells #[.int .u16 (uv x)] 22) := ⟨_, rfl⟩
      have BW := Lib.hid (show Below wr.heap.size wr W by rw [hW]; exact gr_alloc wr _)
      have c9 : W.cell? ⟨wr.heap.size, 0, none⟩ = some (.int .u16 (uv x)) := by rw [hW]; exact (cell_of_row _ _ 0 _ _ _ (heap_alloc_new wr _)).trans rfl
      rw [← hW]
      have HXW := Lib.hid (show wr.heap.size < W.heap.size by rw [hW]; simp)
      have C9 := Lib.hid c9
      have OX := Lib.hid (OW.out.below BW.out)
      have BX := Lib.hid (B.out.trans (BW.out.mono B.out.size))
      have SX := Lib.hid (SW.out.below BW.out)
      obtain ⟨ie, i1, i2, i3, -⟩ := placesOk.info
      have I1 := Lib.hid i1; have I2 := Lib.hid i2; have I3 := Lib.hid i3
      have h4 : (0 : Int) ≤ 2 * (k : Int) := by omega
      have hsl : (k : Int) ≤ 2047 := by omega
      have H4 := Lib.hid h4
      have HK := Lib.hid (show k ≤ 2047 by omega)
      clear hW cx i1 i2 i3 c9
      go_wp2_with (first
        | (go_at_call 62; go_loud (refine (at_u16i wr.heap.size 0 (2 * (k : Int)) H4.out _).mono ?_; rintro r w5 ⟨bx, rfl, hbx, hok, hw⟩; have OKP := Lib.hid hok; have HBX := Lib.hid hbx; have O5 := Lib.hid (OX.out.below hw); have B5 := Lib.hid (BX.out.trans (hw.mono BX.out.size)); have S5' := Lib.hid (SX.out.below hw); have C5 := Lib.hid ((hw.cell (p := ⟨wr.heap.size, 0, none⟩) HXW.out).trans C9.out); have S5 := Lib.hid hw.size; clear hbx hok hw))
        | (refine wpList_buildSlice rfl 84 100 1 _ rfl (([⟨(2 * (k : Int)).toNat, .u16, wr.heap.size, 0, bx⟩] : List Pl).flatMap Pl.cells).toArray ie _ placesOk.under I1.out I2.out (by rw [I3.out]; decide) (by rw [I3.out]; decide) (by rw [I3.out]; kernel_rfl) ?_; have SV := Lib.hid (SliceV.of_cells (f := plC) w5 [(⟨(2 * (k : Int)).toNat, .u16, wr.heap.size, 0, bx⟩, x.setWidth 64)] ((([⟨(2 * (k : Int)).toNat, .u16, wr.heap.size, 0, bx⟩] : List Pl).flatMap Pl.cells).toArray) 100 1 rfl (by omega) rfl))
        | (go_at_call 34; go_loud (refine (store_any w1.heap.size 4096 w1.heap.size (Lay.lays zeros (pl2 (M.take k))) _ [(⟨(2 * (k : Int)).toNat, .u16, wr.heap.size, 0, bx⟩, x.setWidth 64)] _ (O5.out.below (gr_alloc w5 _)) SV.out (fun g o n c e h => by cases e; have := O5.out.lt.2; omega) (fun q hq => by simp at hq; subst hq; exact ⟨OKP.out.below (gr_alloc w5 _), ((gr_alloc w5 _).cell (p := ⟨wr.heap.size, 0, none⟩) (Nat.lt_of_lt_of_le HXW.out S5.out)).trans (by rw [(val16 x).1]; exact C5.out), (val16 x).2, (show bx ≠ w1.heap.size by have := OX.out.lt.2; have := HBX.out; omega), (show wr.heap.size ≠ w1.heap.size by have := OW.out.lt.2; omega), (show (2 * (k : Int)).toNat + 2 ≤ 4096 by have := HK.out; omega)⟩)).mono ?_; rintro r w6 ⟨rfl, ho, hc⟩; have O6 := Lib.hid (show Own4 w6 w1.heap.size w1.heap.size 4096 (Lay.lays zeros (pl2 (M.take (k + 1)))) by rw [HSN.out, Lay.lays_append]; have h := ho; simp only [List.map_cons, List.map_nil, plB] at h; rw [show (2 * (k : Int)).toNat = 2 * k by omega] at h; exact h); have S6 := Lib.hid (SliceV.chg (S5'.out.below (gr_alloc w5 (.cells ((([⟨(2 * (k : Int)).toNat, .u16, wr.heap.size, 0, bx⟩] : List Pl).flatMap Pl.cells).toArray) 100))) hc (fun g o n c e h => by cases e; have := G3.out; have := O.out.lt.2; omega)); have B6 := Lib.hid (hc.fresh (B5.out.trans ((gr_alloc w5 (.cells ((([⟨(2 * (k : Int)).toNat, .u16, wr.heap.size, 0, bx⟩] : List Pl).flatMap Pl.cells).toArray) 100)).mono B5.out.size)) (fun k hk => by have := B1.out.size; omega)); clear ho hc)))
      go_roundw
      case rel => exact ⟨k + 1, by omega, by go_num, O6.out, S6.out, B6.out⟩
      case measure => simp [intOf]; omega
    · obtain rfl : k = M.length := by omega
      go_wp2
      go_ret2
      refine ⟨_, rfl, ?_, B.out⟩
      have h := OW.out
      rw [List.take_length, ← HM.out] at h
      exact own_base h B1.out.size
end Go.Proofs.Ytccllneifkeimaa
