/- The reference's PutAll; the law's inner function few. -/
import Derived.Test.YteicmbapipnbjaaDoorRef01D
import Derived.Test.YteicmbapipnbjaaDoorLaw01A
import Derived.Test.YteicmbapipnbjaaDoorWireN
import Derived.Test.YteicmbapipnbjaaDoorOpenL
import Derived.Test.YteicmbapipnbjaaDoorGuarded
namespace Go.Proofs.YteicmbapipnbjaaDoor
open Go.RowKit
set_option linter.unusedVariables false
set_option linter.unusedSimpArgs false
set_option maxHeartbeats 1600000 in
set_option maxRecDepth 8000 in
theorem rPutAll_new (v : Value) (fl : List WF) (er : Int) (bs : List (BitVec 8)) (w : World) (hv : FieldsV w v fl) (hs : fl.length ≤ 100000) (her : Wire.allE fl = er) (hbs : Wire.allB fl = bs) :
    Calls Tryd.prog 63 #[v] w fun e w' => ∃ u, e = .returned (.tuple #[u, .int .i64 er]) ∧ BytesV w' u bs ∧ NewV w.heap.size u ∧ Below w.heap.size w w' := by
  obtain ⟨a, c, rfl, hn, hc, hm, hrow⟩ := hv
  have HROW := Lib.hid hrow; clear hrow
  have HS := Lib.hid hs; have HER := Lib.hid her; have HBS := Lib.hid hbs
  have hm' : fl.length ≤ 9223372036854775807 := by omega
  clear her hbs
  go_enter Tryd.func63, Tryd.ntmps63
  go_wp2
  go_loopw [4, 5] (fun u i wr => ∃ k : Nat, k ≤ fl.length ∧ i = .int .i64 k ∧ Hid (Wire.allE (fl.take k) = 0) ∧ wr.ownsRow w.heap.size 5 1 u (Wire.cat (fl.take k)).length (by8 (Wire.cat (fl.take k))) ∧ Below w.heap.size w wr) (fun _ i _ => fl.length - (intOf i).toNat)
  case atStart => exact ⟨0, by omega, rfl, rfl, World.ownsRow_nil _ _ _ _, Below.refl _ _⟩
  case round =>
    obtain ⟨k, hk, rfl, hE, hown, hb⟩ := hrel
    have HO := Lib.hid hown; clear hown
    have HB := Lib.hid hb; clear hb
    by_cases hlt : k < fl.length
    · obtain ⟨⟨x, n⟩, hx⟩ : ∃ f, fl[k]? = some f := ⟨fl[k], List.getElem?_eq_getElem hlt⟩
      obtain ⟨g1, g2⟩ := fCells_get fl k _ hx
      obtain ⟨b, o, rfl, c0⟩ := (HROW.out.below HB.out).at g1
      obtain ⟨b', o', e1, c1⟩ := (HROW.out.below HB.out).at g2
      cases e1
      rw [← Nat.add_assoc] at c1
      dsimp only at c0 c1
      have q0 : ∀ y : KeepT nowhere wr, y.val.cell? ⟨b, o + k * 2, none⟩ = some (.int .u64 (uv x)) := fun y => y.cell c0 id
      have q1 : ∀ y : KeepT nowhere wr, y.val.cell? ⟨b, o + k * 2 + 1, none⟩ = some (.int .i64 n) := fun y => y.cell c1 id
      obtain ⟨e, he⟩ : ∃ e, Wire.putE x n = e := ⟨_, rfl⟩
      obtain ⟨l, hl⟩ : ∃ l, Wire.putB x n = l := ⟨_, rfl⟩
      have hT := Wire.cat_take fl k _ hx
      have hET := Wire.allE_take fl k _ hx hE.out
      have hST := Wire.allE_stop fl k _ hx hE.out
      have hlen := Wire.cat_len (fl.take (k + 1))
      dsimp only at hT hET hST
      rw [he] at hET hST
      rw [hl] at hT
      have hll : (Wire.cat (fl.take k)).length + l.length ≤ 140737488355328 := by
        rw [← List.length_append, ← hT]; rw [List.length_take] at hlen; omega
      have HE := Lib.hid he; clear he
      have HL := Lib.hid hl; clear hl
      have HT := Lib.hid hT; clear hT
      have HET := Lib.hid hET; clear hET
      have HST := Lib.hid hST; clear hST
      have HLL := Lib.hid hll; clear hll
      clear hlen g1 g2 hx
      go_wp2
      refine wp_region_planW nowhere [(true, 0), (true, 1), (true, 2), (true, 3), (true, 4), (true, 5), (true, 6), (true, 7), (true, 8), (true, 9), (false, 10), (true, 11), (true, 12), (true, 13), (true, 14), (true, 15)]
        (by kernel_rfl) (by kernel_rfl) (by intro c a d v w h; cases d <;> exact h) ?_
      intro W1 K1 C1
      repeat (refine wpS_firm rfl (fun K hK => ?_); simp only [Keep]; go_simp; refine hK _ ?_; clear hK K)
      refine wpS_chain rfl ?_
      go_wp2_with (go_at_call 12; go_loud (refine (rPut_new x n e l _ HE.out HL.out).mono ?_; rintro r w2 ⟨u2, rfl, hu, hnu, hw⟩; have U2 := Lib.hid hu; have B2 := Lib.hid (HB.out.trans ((gr_tr C1.out hw).mono HB.out.size)); have O2 := Lib.hid (own_below HO.out (gr_tr C1.out hw)); have K2 := Lib.hid (K1.out.below hw); clear hu hnu hw))
      refine ⟨K2.out, ?_⟩
      repeat (refine wpS_firm rfl (fun K hK => ?_); simp only [Keep]; go_simp; refine hK _ ?_; clear hK K)
      unfold wpS
      by_cases he0 : e = 0
      · subst he0
        go_wp2_with (at_builtin; go_loud (refine app_more rfl (.tmp 31) (.tmp 32) rfl _ w.heap.size _ _ rfl O2.out B2.out.size u2 l rfl U2.out HLL.out ?_; intro v' w3 hown hgr hbel; have O3 := Lib.hid hown; have B3 := Lib.hid (B2.out.trans hbel); clear hown hgr hbel))
        go_roundw
        case rel => exact ⟨k + 1, by omega, by go_num, HET.out, by rw [HT.out, List.length_append]; exact O3.out, B3.out⟩
        case measure => simp [intOf]; omega
      · have hq : (e != 0) = true := by simpa using he0
        have HE0 := Lib.hid he0; clear he0
        go_wp2
        go_ret2
        obtain rfl : er = e := by rw [← HER.out]; exact HST.out HE0.out
        obtain rfl : bs = [] := by rw [← HBS.out]; unfold Wire.allB; rw [HER.out, if_neg HE0.out]
        exact ⟨.slice none 0 0, rfl, BytesV.nil _, NewV.nil _, B2.out⟩
    · obtain rfl : k = fl.length := by omega
      go_wp2
      go_ret2
      have h1 := hE.out
      have h2 := HO.out
      rw [List.take_length] at h1 h2
      obtain rfl : er = 0 := by rw [← HER.out, h1]
      obtain rfl : bs = Wire.cat fl := by rw [← HBS.out]; unfold Wire.allB; rw [if_pos h1]
      exact ⟨_, rfl, BytesV.of_own h2, NewV.of_own h2, HB.out⟩
/-- An act as the law lets it pass. -/
def Small (w : World) (y : ActT) : Prop := ∃ (fl : List WF) (bl : List (BitVec 8)), FieldsV w y.fs fl ∧ BytesV w y.b bl ∧ I64 y.n ∧ fl.length ≤ 20 ∧ bl.length ≤ 100 ∧ y.n ≤ 1000
def FewOut (w : World) (xs : List ActT) (e : Ending) (w' : World) : Prop := ∃ b, e = .returned (.bool b) ∧ (b = true → xs.length ≤ 40 ∧ ∀ y ∈ xs, Small w y) ∧ w = w'
set_option maxHeartbeats 1600000 in
theorem few_any (v : Value) (xs : List ActT) (w : World) (hx : SliceV w ActT.cells v xs) (hxr : ∀ y ∈ xs, ActT.R w y) :
    Calls Tryd.prog 34 #[v] w (FewOut w xs) := by
  obtain ⟨a, c, rfl, -, hlc, hc, hrow⟩ := hx
  have ROW := Lib.hid hrow; have XR := Lib.hid hxr; clear hrow hxr
  have hm : xs.length ≤ 9223372036854775807 := by omega
  by_cases h40 : 40 < xs.length
  · have d1 : decide ((40 : Int) < (xs.length : Int)) = true := decide_eq_true (by omega)
    clear h40
    go_enter Tryd.func34, Tryd.ntmps34
    go_wp2
    go_ret
    exact ⟨false, rfl, fun h => absurd h (by decide), rfl⟩
  · have d1 : decide ((40 : Int) < (xs.length : Int)) = false := decide_eq_false (by omega)
    go_enter Tryd.func34, Tryd.ntmps34
    go_wp2
    go_loopw [3] (fun i wr => ∃ k : Nat, k ≤ xs.length ∧ i = .int .i64 k ∧ Hid (∀ i y, i < k → xs[i]? = some y → Small w y) ∧ w = wr) (fun i _ => xs.length - (intOf i).toNat)
    case atStart => exact ⟨0, by omega, rfl, Lib.hid (fun i y h => absurd h (by omega)), rfl⟩
    case round =>
      obtain ⟨k, hk, rfl, hE, rfl⟩ := hrel
      by_cases hlt : k < xs.length
      · obtain ⟨⟨kd, x, n, fs, bv⟩, hx⟩ : ∃ x, xs[k]? = some x := ⟨xs[k], List.getElem?_eq_getElem hlt⟩
        obtain ⟨-, -, hn, ⟨fl, hfl, -⟩, ⟨bl, hbl, -⟩⟩ := XR.out _ (List.mem_of_getElem? hx)
        have hfl := FieldsV.of_slice hfl
        have hbl := BytesV.of_slice hbl
        have e2 := flat_get ActT.cells_len xs k 2 _ hx (by decide)
        have e3 := flat_get ActT.cells_len xs k 3 _ hx (by decide)
        have e4 := flat_get ActT.cells_len xs k 4 _ hx (by decide)
        obtain ⟨bb, oo, rfl, f2⟩ := ROW.out.at (i := k * 5 + 2) (v := .int .i64 n) e2
        obtain ⟨b', o', ee, f3⟩ := ROW.out.at (i := k * 5 + 3) (v := fs) e3
        cases ee
        obtain ⟨b', o', ee, f4⟩ := ROW.out.at (i := k * 5 + 4) (v := bv) e4
        cases ee
        rw [← Nat.add_assoc] at f2 f3 f4
        have SM : Hid (fl.length ≤ 20 → bl.length ≤ 100 → n ≤ 1000 → Small w ⟨kd, x, n, fs, bv⟩) := Lib.hid (fun h1 h2 h3 => ⟨_, bl, hfl, hbl, hn, by simpa using h1, h2, h3⟩)
        have HX := Lib.hid hx
        obtain ⟨af, cf, e5, -⟩ := hfl
        obtain ⟨ab, cb, e6, -⟩ := hbl
        rw [List.length_map] at e5
        subst e5 e6
        clear hx e2 e3 e4 hn
        by_cases h1 : 20 < fl.length
        · have t1 : decide ((20 : Int) < (fl.length : Int)) = true := decide_eq_true (by omega)
          clear h1
          go_wp2
          go_ret
          exact ⟨false, rfl, fun h => absurd h (by decide), rfl⟩
        · have t1 : decide ((20 : Int) < (fl.length : Int)) = false := decide_eq_false (by omega)
          by_cases h2 : 100 < bl.length
          · have t2 : decide ((100 : Int) < (bl.length : Int)) = true := decide_eq_true (by omega)
            clear h1 h2
            go_wp2
            go_ret
            exact ⟨false, rfl, fun h => absurd h (by decide), rfl⟩
          · have t2 : decide ((100 : Int) < (bl.length : Int)) = false := decide_eq_false (by omega)
            by_cases h3 : 1000 < n
            · have t3 : decide (1000 < n) = true := decide_eq_true h3
              clear h1 h2 h3
              go_wp2
              go_ret
              exact ⟨false, rfl, fun h => absurd h (by decide), rfl⟩
            · have t3 : decide (1000 < n) = false := decide_eq_false h3
              have SM2 := Lib.hid (SM.out (by omega) (by omega) (by omega))
              clear h1 h2 h3
              go_wp2
              go_roundw
              case rel =>
                refine ⟨k + 1, by omega, by go_num, Lib.hid (fun i y hi hy => ?_), trivial⟩
                by_cases e : i = k
                · subst e; rw [HX.out] at hy; cases hy; exact SM2.out
                · exact hE.out i y (by omega) hy
              case measure => simp [intOf]; omega
      · obtain rfl : k = xs.length := by omega
        have ALL := Lib.hid (show xs.length ≤ 40 ∧ ∀ y ∈ xs, Small w y from ⟨by omega, fun y hy => by
          obtain ⟨i, hi, rfl⟩ := List.getElem_of_mem hy
          exact hE.out i _ hi (List.getElem?_eq_getElem hi)⟩)
        clear hlt h40
        go_wp2
        go_ret
        exact ⟨true, rfl, fun _ => ALL.out, rfl⟩
end Go.Proofs.YteicmbapipnbjaaDoor
