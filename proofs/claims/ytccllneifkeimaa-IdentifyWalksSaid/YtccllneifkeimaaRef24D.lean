/- The reference of layer 24: ActiveList. Printed by genref24d.py. -/
import Derived.Test.YtccllneifkeimaaRef24C
import Derived.Test.YtccllneifkeimaaIdList
namespace Go.Proofs.Ytccllneifkeimaa
open Go.RowKit Idn Rise
set_option linter.unusedVariables false
set_option linter.unusedSimpArgs false
namespace Idn
def badAt (l : List (BitVec 32)) (i : Nat) : Bool := (l.getD i 0#32 == 0#32) || (decide (0 < i) && decide (uv (l.getD i 0#32) ≤ uv (l.getD (i - 1) 0#32)))
def OkTo (l : List (BitVec 32)) (k : Nat) : Prop := ∀ i, i < k → badAt l i = false
theorem getD_of {l : List (BitVec 32)} {i : Nat} {x : BitVec 32} (h : l[i]? = some x) : l.getD i 0#32 = x := by simp [List.getD, h]
theorem okTo_more {l : List (BitVec 32)} {k : Nat} (h : OkTo l k) (hb : badAt l k = false) : OkTo l (k + 1) := fun i hi => by
  by_cases e : i = k
  · subst e; exact hb
  · exact h i (by omega)
theorem okTo_ok {l : List (BitVec 32)} (h : OkTo l l.length) : OkL l := by
  refine ⟨fun t a b h1 h2 => ?_, fun x h0 => ?_⟩
  · have hb := h (t + 1) (List.getElem?_eq_some_iff.1 h2).1
    unfold badAt at hb
    rw [getD_of h2, Nat.add_sub_cancel, getD_of h1] at hb
    simp only [Bool.or_eq_false_iff, Bool.and_eq_false_iff, decide_eq_false_iff_not] at hb
    omega
  · have hb := h 0 (List.getElem?_eq_some_iff.1 h0).1
    unfold badAt at hb
    rw [getD_of h0] at hb
    simp at hb
    exact hb
theorem bad_no {l : List (BitVec 32)} {k : Nat} (hk : k < l.length) (h : badAt l k = true) : ¬ OkL l := by
  intro ho
  obtain ⟨x, hx⟩ : ∃ y, l[k]? = some y := ⟨_, List.getElem?_eq_getElem hk⟩
  unfold badAt at h
  rw [getD_of hx] at h
  cases k with
  | zero =>
    simp at h
    exact ho.2 x hx h
  | succ k =>
    obtain ⟨y, hy⟩ : ∃ y, l[k]? = some y := ⟨_, List.getElem?_eq_getElem (by omega)⟩
    have := ho.1 k y x hy hx
    rw [Nat.add_sub_cancel, getD_of hy] at h
    simp only [Bool.or_eq_true, Bool.and_eq_true, decide_eq_true_eq, beq_iff_eq] at h
    rcases h with rfl | h
    · have := uv_nonneg y
      have e : uv 0#32 = 0 := rfl
      omega
    · omega
end Idn
set_option maxHeartbeats 1600000 in
set_option maxRecDepth 8000 in
theorem rAct_any (v : Value) (l : List (BitVec 32)) (a : BitVec 32) (w : World) (hv : SliceV w (fun y : BitVec 32 => [Value.int .u32 (uv y)]) v l) (hl : l.length ≤ 1000000) :
    Calls Try.prog 16 #[v, .int .u32 (uv a)] w fun e w' => ((OkL l ∧ ∃ g, e = .returned (.tuple #[.slice (some ⟨g, 0, none⟩) 4096 4096, .int .i64 0]) ∧ Own4 w' w.heap.size g 4096 (actB l a)) ∨ (¬ OkL l ∧ e = .returned (.tuple #[.slice none 0 0, .int .i64 2]))) ∧ Below w.heap.size w w' := by
  obtain ⟨av, c, rfl, -, hlc, hc, hrow⟩ := id hv
  have ROW := Lib.hid (nu32_row hrow)
  have hm : l.length ≤ 9223372036854775807 := by omega
  clear hv hrow
  go_enter Try.func16, Try.ntmps16
  go_upto_region 4 with (refine make_law bytesOk rfl _ _ rfl w.heap.size .i64 .i64 4096 4096 4096 rfl rfl rfl rfl (by omega) (by omega) (Nat.le_refl _) ?_; intro w2 hown hgrow; have O := Lib.hid (show Own4 w2 w.heap.size w.heap.size 4096 zeros by have h := hown; rw [by8_made] at h; exact h); have B2 := Lib.hid ((Below.refl w.heap.size w).grown hgrow (Nat.le_refl _) (by intro k hk; cases hk)); clear hgrow hown)
  go_loopw [7, 8] (fun nn i wr => ∃ (k : Nat) (S : List (BitVec 32)), k ≤ l.length ∧ i = .int .i64 k ∧ nn = .int .i64 S.length ∧ Hid (sel l a k = S) ∧ Hid (OkTo l k) ∧ Own4 wr w.heap.size w.heap.size 4096 (Lay.lays zeros (places4 S)) ∧ Below w.heap.size w wr) (fun _ i _ => l.length - (intOf i).toNat)
  case atStart => exact ⟨0, [], by omega, rfl, rfl, rfl, fun i hi => absurd hi (by omega), (by rw [show places4 [] = [] from rfl, Lay.lays_nil]; exact O.out), B2.out⟩
  case round =>
    obtain ⟨k, S, hk, rfl, rfl, hS, OKT, ho, hb⟩ := hrel
    have OW := Lib.hid ho; have B := Lib.hid hb; clear ho hb
    have OD := Lib.hid (show Own4 wr.drew w.heap.size w.heap.size 4096 (Lay.lays zeros (places4 S)) from OW.out.below (gr_drew wr)); have BD := Lib.hid (gr_tr B.out (gr_drew wr))
    by_cases hlt : k < l.length
    · obtain ⟨x, hx⟩ : ∃ y, l[k]? = some y := ⟨_, List.getElem?_eq_getElem hlt⟩
      obtain ⟨g, o, rfl, cx⟩ := (ROW.out.below B.out).at (i := k) (v := .int .u32 (uv x)) (by rw [nu32_get, hx]; rfl)
      have HX := Lib.hid hx; clear hx
      by_cases hx0 : x = 0#32
      · have HBAD := Lib.hid (show badAt l k = true by unfold badAt; rw [getD_of HX.out, hx0]; rfl)
        have hz : (uv x == 0) = true := by rw [hx0]; rfl
        clear hx0
        go_wp2
        go_region
        go_wp2
        go_ret2
        exact ⟨.inr ⟨bad_no hlt HBAD.out, rfl⟩, BD.out⟩
      · have hz : (uv x == 0) = false := by rw [show (0 : Int) = uv 0#32 from rfl, uv_beq]; simpa using hx0
        rcases k with _ | j
        · replace cx : wr.cell? ⟨g, o, none⟩ = some (.int .u32 (uv x)) := cx
          have HBAD := Lib.hid (show badAt l 0 = false by unfold badAt; rw [getD_of HX.out]; simpa using hx0)
          clear hx0
          obtain ⟨r, hr⟩ : ∃ r, decide (uv a < uv x) = r := ⟨_, rfl⟩
          have HR := Lib.hid (show above a x = r from hr)
          have OKN := Lib.hid (okTo_more OKT.out HBAD.out)
          cases r
          · go_wp2
            go_region
            go_wp2
            go_roundw
            case rel => exact ⟨0 + 1, S, by omega, by go_num, rfl, Lib.hid (by rw [sel_no l a 0 x HX.out HR.out]; exact hS.out), OKN, OD.out, BD.out⟩
            case measure => simp [intOf]; omega
          · by_cases hn : S.length < 1024
            · have d1 : decide ((S.length : Int) < 1024) = true := decide_eq_true (by omega)
              have d2 : decide (S.length < 1024) = true := decide_eq_true hn
              have HN := Lib.hid hn
              have h4 : (0 : Int) ≤ 4 * (S.length : Int) := by omega
              have hsl : (S.length : Int) ≤ 1024 := by omega
              clear hn
              go_wp2
              go_region
              go_wp2_with (go_at_call 40; go_loud (rw [show (4 * (S.length : Int)) = ((4 * S.length : Nat) : Int) by omega]; refine (rput_any w.heap.size 4096 w.heap.size _ (4 * S.length) 4 (x.setWidth 64) _ OD.out (by have := HN.out; omega) (by omega)).mono ?_; rintro r wn ⟨rfl, ho, hc⟩; have O2 := Lib.hid (show Own4 wn w.heap.size w.heap.size 4096 (Lay.lays zeros (places4 (S ++ [x]))) by rw [places4_snoc, Lay.lays_append]; exact ho); have B2 := Lib.hid (hc.fresh BD.out (fun k hk => by omega)); clear ho hc))
              go_roundw
              case rel => exact ⟨0 + 1, S ++ [x], by omega, by go_num, by rw [List.length_append, List.length_singleton]; go_num, Lib.hid (by rw [sel_yes l a 0 x HX.out HR.out (by rw [hS.out]; exact HN.out), hS.out]), OKN, O2.out, B2.out⟩
              case measure => simp [intOf]; omega
            · have d1 : decide ((S.length : Int) < 1024) = false := decide_eq_false (by omega)
              have d2 : decide (S.length < 1024) = false := decide_eq_false hn
              have HN := Lib.hid hn
              clear hn
              go_wp2
              go_region
              go_wp2
              go_roundw
              case rel => exact ⟨0 + 1, S, by omega, by go_num, rfl, Lib.hid (by rw [sel_full l a 0 x HX.out (by rw [hS.out]; exact HN.out)]; exact hS.out), OKN, OD.out, BD.out⟩
              case measure => simp [intOf]; omega
        · obtain ⟨y, hy⟩ : ∃ y, l[j]? = some y := ⟨_, List.getElem?_eq_getElem (by omega)⟩
          obtain ⟨g', o', ee, cy⟩ := (ROW.out.below B.out).at (i := j) (v := .int .u32 (uv y)) (by rw [nu32_get, hy]; rfl)
          cases ee
          obtain ⟨q, hq⟩ : ∃ q, decide (uv x ≤ uv y) = q := ⟨_, rfl⟩
          have HBAD := Lib.hid (show badAt l (j + 1) = q by unfold badAt; rw [getD_of HX.out, Nat.add_sub_cancel, getD_of hy, hq]; simp [hx0])
          clear hx0 hy
          cases q
          · skip
            obtain ⟨r, hr⟩ : ∃ r, decide (uv a < uv x) = r := ⟨_, rfl⟩
            have HR := Lib.hid (show above a x = r from hr)
            have OKN := Lib.hid (okTo_more OKT.out HBAD.out)
            cases r
            · go_wp2
              go_region
              go_wp2
              go_roundw
              case rel => exact ⟨(j + 1) + 1, S, by omega, by go_num, rfl, Lib.hid (by rw [sel_no l a (j + 1) x HX.out HR.out]; exact hS.out), OKN, OD.out, BD.out⟩
              case measure => simp [intOf]; omega
            · by_cases hn : S.length < 1024
              · have d1 : decide ((S.length : Int) < 1024) = true := decide_eq_true (by omega)
                have d2 : decide (S.length < 1024) = true := decide_eq_true hn
                have HN := Lib.hid hn
                have h4 : (0 : Int) ≤ 4 * (S.length : Int) := by omega
                have hsl : (S.length : Int) ≤ 1024 := by omega
                clear hn
                go_wp2
                go_region
                go_wp2_with (go_at_call 40; go_loud (rw [show (4 * (S.length : Int)) = ((4 * S.length : Nat) : Int) by omega]; refine (rput_any w.heap.size 4096 w.heap.size _ (4 * S.length) 4 (x.setWidth 64) _ OD.out (by have := HN.out; omega) (by omega)).mono ?_; rintro r wn ⟨rfl, ho, hc⟩; have O2 := Lib.hid (show Own4 wn w.heap.size w.heap.size 4096 (Lay.lays zeros (places4 (S ++ [x]))) by rw [places4_snoc, Lay.lays_append]; exact ho); have B2 := Lib.hid (hc.fresh BD.out (fun k hk => by omega)); clear ho hc))
                go_roundw
                case rel => exact ⟨(j + 1) + 1, S ++ [x], by omega, by go_num, by rw [List.length_append, List.length_singleton]; go_num, Lib.hid (by rw [sel_yes l a (j + 1) x HX.out HR.out (by rw [hS.out]; exact HN.out), hS.out]), OKN, O2.out, B2.out⟩
                case measure => simp [intOf]; omega
              · have d1 : decide ((S.length : Int) < 1024) = false := decide_eq_false (by omega)
                have d2 : decide (S.length < 1024) = false := decide_eq_false hn
                have HN := Lib.hid hn
                clear hn
                go_wp2
                go_region
                go_wp2
                go_roundw
                case rel => exact ⟨(j + 1) + 1, S, by omega, by go_num, rfl, Lib.hid (by rw [sel_full l a (j + 1) x HX.out (by rw [hS.out]; exact HN.out)]; exact hS.out), OKN, OD.out, BD.out⟩
                case measure => simp [intOf]; omega
          · go_wp2
            go_region
            go_wp2
            go_ret2
            exact ⟨.inr ⟨bad_no hlt HBAD.out, rfl⟩, BD.out⟩
    · obtain rfl : k = l.length := by omega
      have HFIN := Lib.hid hS.out
      go_wp2
      go_ret2
      refine ⟨.inl ⟨okTo_ok OKT.out, _, rfl, ?_⟩, B.out⟩
      have h := OW.out
      rw [← HFIN.out] at h
      exact h
end Go.Proofs.Ytccllneifkeimaa
