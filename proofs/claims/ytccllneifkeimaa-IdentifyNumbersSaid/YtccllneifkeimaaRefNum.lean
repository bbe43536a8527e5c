/- The reference's EncodeControllers. -/
import Derived.Test.YtccllneifkeimaaIdNum
import Derived.Test.YtccllneifkeimaaRef24C
namespace Go.Proofs.Ytccllneifkeimaa
open Go.RowKit Idn Rise
set_option linter.unusedVariables false
set_option linter.unusedSimpArgs false
namespace Idn
def badN (l : List (BitVec 16)) (i : Nat) : Bool := decide (0 < i) && decide (uv (l.getD i 0#16) ≤ uv (l.getD (i - 1) 0#16))
def OkNTo (l : List (BitVec 16)) (k : Nat) : Prop := ∀ i, i < k → badN l i = false
theorem getD_of16 {l : List (BitVec 16)} {i : Nat} {x : BitVec 16} (h : l[i]? = some x) : l.getD i 0#16 = x := by simp [List.getD, h]
theorem okNTo_more {l : List (BitVec 16)} {k : Nat} (h : OkNTo l k) (hb : badN l k = false) : OkNTo l (k + 1) := fun i hi => by
  by_cases e : i = k
  · subst e; exact hb
  · exact h i (by omega)
theorem okNTo_ok {l : List (BitVec 16)} (h : OkNTo l l.length) : Strict l := fun t a b h1 h2 => by
  have hb := h (t + 1) (List.getElem?_eq_some_iff.1 h2).1
  unfold badN at hb
  rw [getD_of16 h2, Nat.add_sub_cancel, getD_of16 h1] at hb
  simp only [Bool.and_eq_false_iff, decide_eq_false_iff_not] at hb
  omega
theorem badN_no {l : List (BitVec 16)} {k : Nat} (hk : k < l.length) (h : badN l k = true) : ¬ Strict l := by
  intro ho
  obtain ⟨x, hx⟩ : ∃ y, l[k]? = some y := ⟨_, List.getElem?_eq_getElem hk⟩
  unfold badN at h
  rw [getD_of16 hx] at h
  cases k with
  | zero => simp at h
  | succ k =>
    obtain ⟨y, hy⟩ : ∃ y, l[k]? = some y := ⟨_, List.getElem?_eq_getElem (by omega)⟩
    have := ho k y x hy hx
    rw [Nat.add_sub_cancel, getD_of16 hy] at h
    simp only [Bool.and_eq_true, decide_eq_true_eq] at h
    omega
theorem count64 (n : Nat) (h : n ≤ 2047) : (BitVec.ofNat 16 n).setWidth 64 = BitVec.ofNat 64 n := by
  apply BitVec.eq_of_toNat_eq
  rw [BitVec.toNat_setWidth, BitVec.toNat_ofNat, BitVec.toNat_ofNat]
  omega
end Idn
set_option maxHeartbeats 1600000 in
set_option maxRecDepth 8000 in
theorem rEncN_any (v : Value) (l : List (BitVec 16)) (w : World) (hv : SliceV w S16 v l) (hl : l.length ≤ 1000000) :
    Calls Try.prog 31 #[v] w fun e w' => ((okN l = true ∧ ∃ g, e = .returned (.tuple #[.slice (some ⟨g, 0, none⟩) 4096 4096, .int .i64 0]) ∧ Own4 w' w.heap.size g 4096 (numB l)) ∨ (okN l = false ∧ e = .returned (.tuple #[.slice none 0 0, .int .i64 2]))) ∧ Below w.heap.size w w' := by
  obtain ⟨av, c, rfl, -, hlc, hc, hrow⟩ := id hv
  have ROW := Lib.hid (nu16_row hrow)
  have hm : l.length ≤ 9223372036854775807 := by omega
  clear hv hrow
  by_cases hbig : l.length ≤ 2047
  · have d1 : decide ((2047 : Int) < (l.length : Int)) = false := decide_eq_false (by omega)
    have d2 : decide (2047 < l.length) = false := decide_eq_false (by omega)
    have HB := Lib.hid hbig
    have C64 := Lib.hid (count64 l.length hbig)
    have hok : ∀ b, strictB l = b → okN l = b := fun b h => by unfold okN; rw [h, decide_eq_true hbig]; rfl
    have HOK := Lib.hid hok
    clear hbig hok hl
    go_enter Try.func31, Try.ntmps31
    go_upto_region 5 with (first
      | (refine make_law bytesOk rfl _ _ rfl w.heap.size .i64 .i64 4096 4096 4096 rfl rfl rfl rfl (by omega) (by omega) (Nat.le_refl _) ?_; intro w2 hown hgrow; have O := Lib.hid (show Own4 w2 w.heap.size w.heap.size 4096 zeros by have h := hown; rw [by8_made] at h; exact h); have B2 := Lib.hid ((Below.refl w.heap.size w).grown hgrow (Nat.le_refl _) (by intro k hk; cases hk)); clear hgrow hown)
      | (go_at_call 40; go_loud (refine (rput_any w.heap.size 4096 w.heap.size zeros 0 2 (BitVec.ofNat 64 l.length) _ O.out (by omega) (by omega)).mono ?_; rintro r w3 ⟨rfl, ho, hc⟩; have O2 := Lib.hid (show Own4 w3 w.heap.size w.heap.size 4096 (Lay.lays zeros (pl2 ((hdN l).take 1))) by rw [← C64.out] at ho; exact ho); have B3 := Lib.hid (hc.fresh B2.out (fun k hk => by omega)); clear ho hc)))
    go_wp2
    go_loopw [5] (fun i wr => ∃ k : Nat, k ≤ l.length ∧ i = .int .i64 k ∧ Hid (OkNTo l k) ∧ Own4 wr w.heap.size w.heap.size 4096 (Lay.lays zeros (pl2 ((hdN l).take (k + 1)))) ∧ Below w.heap.size w wr) (fun i _ => l.length - (intOf i).toNat)
    case atStart => exact ⟨0, by omega, rfl, fun i hi => absurd hi (by omega), O2.out, B3.out⟩
    case round =>
      obtain ⟨k, hk, rfl, OKT, ho, hb⟩ := hrel
      have OW := Lib.hid ho; have B := Lib.hid hb; clear ho hb
      have OD := Lib.hid (show Own4 wr.drew w.heap.size w.heap.size 4096 (Lay.lays zeros (pl2 ((hdN l).take (k + 1)))) from OW.out.below (gr_drew wr)); have BD := Lib.hid (gr_tr B.out (gr_drew wr))
      by_cases hlt : k < l.length
      · obtain ⟨x, hx⟩ : ∃ y, l[k]? = some y := ⟨_, List.getElem?_eq_getElem hlt⟩
        obtain ⟨g, o, rfl, cx⟩ := (ROW.out.below B.out).at (i := k) (v := .int .u16 (uv x)) (by rw [nu16_get, hx]; rfl)
        have hsnoc : pl2 ((hdN l).take (k + 1 + 1)) = pl2 ((hdN l).take (k + 1)) ++ [(2 + 2 * k, Wire.le (x.setWidth 64) 2)] := by
          have hx2 : (hdN l)[k + 1]? = some x := hx
          obtain ⟨h1, h2⟩ := List.getElem?_eq_some_iff.1 hx2
          rw [List.take_succ_eq_append_getElem h1, h2, pl2_snoc, List.length_take, Nat.min_eq_left (Nat.le_of_lt h1), show 2 * (k + 1) = 2 + 2 * k by omega]
        have HSN := Lib.hid hsnoc
        have HX := Lib.hid hx
        have HKB := Lib.hid (show k ≤ 2046 by have := HB.out; omega)
        clear hx hsnoc
        rcases k with _ | j
        · replace cx : wr.cell? ⟨g, o, none⟩ = some (.int .u16 (uv x)) := cx
          have OKN := Lib.hid (okNTo_more OKT.out (show badN l 0 = false from rfl))
          go_wp2
          go_region
          go_wp2_with (go_at_call 40; go_loud (refine (rput_any w.heap.size 4096 w.heap.size _ 2 2 (x.setWidth 64) _ OD.out (by omega) (by omega)).mono ?_; rintro r wn ⟨rfl, ho, hc⟩; have O5 := Lib.hid (show Own4 wn w.heap.size w.heap.size 4096 (Lay.lays zeros (pl2 ((hdN l).take (0 + 1 + 1)))) by rw [HSN.out, Lay.lays_append]; exact ho); have B5 := Lib.hid (hc.fresh BD.out (fun k hk => by omega)); clear ho hc))
          go_roundw
          case rel => exact ⟨0 + 1, by omega, by go_num, OKN, O5.out, B5.out⟩
          case measure => simp [intOf]; omega
        · obtain ⟨y, hy⟩ : ∃ y, l[j]? = some y := ⟨_, List.getElem?_eq_getElem (by omega)⟩
          obtain ⟨g', o', ee, cy⟩ := (ROW.out.below B.out).at (i := j) (v := .int .u16 (uv y)) (by rw [nu16_get, hy]; rfl)
          cases ee
          obtain ⟨q, hq⟩ : ∃ q, decide (uv x ≤ uv y) = q := ⟨_, rfl⟩
          have HBAD := Lib.hid (show badN l (j + 1) = q by unfold badN; rw [getD_of16 HX.out, Nat.add_sub_cancel, getD_of16 hy, hq]; simp)
          have hjb : (j : Int) ≤ 2045 := by have := HB.out; omega
          clear hy
          cases q
          · have OKN := Lib.hid (okNTo_more OKT.out HBAD.out)
            go_wp2
            go_region
            go_wp2_with (go_at_call 40; go_loud (rw [show (2 + 2 * ((j : Int) + 1)) = ((2 + 2 * (j + 1) : Nat) : Int) by omega]; refine (rput_any w.heap.size 4096 w.heap.size _ (2 + 2 * (j + 1)) 2 (x.setWidth 64) _ OD.out (by have := HKB.out; omega) (by omega)).mono ?_; rintro r wn ⟨rfl, ho, hc⟩; have O5 := Lib.hid (show Own4 wn w.heap.size w.heap.size 4096 (Lay.lays zeros (pl2 ((hdN l).take (j + 1 + 1 + 1)))) by rw [HSN.out, Lay.lays_append]; exact ho); have B5 := Lib.hid (hc.fresh BD.out (fun k hk => by omega)); clear ho hc))
            go_roundw
            case rel => exact ⟨(j + 1) + 1, by omega, by go_num, OKN, O5.out, B5.out⟩
            case measure => simp [intOf]; omega
          · have HNO := Lib.hid (badN_no hlt HBAD.out)
            go_wp2
            go_region
            go_wp2
            go_ret2
            refine ⟨.inr ⟨HOK.out false ?_, rfl⟩, BD.out⟩
            cases hs : strictB l
            · rfl
            · exact absurd ((strictB_iff l).1 hs) HNO.out
      · obtain rfl : k = l.length := by omega
        go_wp2
        go_ret2
        refine ⟨.inl ⟨HOK.out true ((strictB_iff l).2 (okNTo_ok OKT.out)), _, rfl, ?_⟩, B.out⟩
        have h := OW.out
        rw [List.take_of_length_le (by rw [hdN_len]; omega)] at h
        exact h
  · have d1 : decide ((2047 : Int) < (l.length : Int)) = true := decide_eq_true (by omega)
    have d2 : decide (2047 < l.length) = true := decide_eq_true (by omega)
    have HOK := Lib.hid (show okN l = false by unfold okN; rw [decide_eq_false hbig]; rfl)
    clear hbig hl
    go_enter Try.func31, Try.ntmps31
    go_wp2
    go_ret2
    exact ⟨.inr ⟨HOK.out, rfl⟩, Below.refl _ _⟩
end Go.Proofs.Ytccllneifkeimaa
