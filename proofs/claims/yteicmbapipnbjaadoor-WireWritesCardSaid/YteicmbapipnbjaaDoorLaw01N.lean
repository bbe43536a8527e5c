/- The walk of WireWrites. -/
import Derived.Test.YteicmbapipnbjaaDoorLaw01M
namespace Go.Proofs.YteicmbapipnbjaaDoor
open Go.RowKit
set_option linter.unusedVariables false
set_option linter.unusedSimpArgs false
theorem own_chg2 {w w' : World} {base : Nat} {e : TypeId} {size : Nat} {v : Value} {n : Nat} {xs : List Value} {B : Nat → Prop} (h : w.ownsRow base e size v n xs) (k : Chg B w w') (hn : ∀ g, v.ownBlock = some g → ¬ B g) : w'.ownsRow base e size v n xs := own_chg h k hn
theorem own_addr2 {w : World} {base n : Nat} {e : TypeId} {v : Value} {xs : List Value} (h : w.ownsRow base e 1 v n xs) (hn : 0 < n) : ∃ g c, v = .slice (some ⟨g, 0, none⟩) n c := by
  obtain ⟨h1, h2⟩ := h
  rcases h2 with ⟨_, h0⟩ | ⟨g, cap, cur, rfl, _⟩
  · omega
  · exact ⟨g, cap, rfl⟩
theorem by8_set2 (l : List (BitVec 8)) (k : Nat) (y : BitVec 8) : (by8 l).set k (.int .u8 (uv y)) = by8 (l.set k y) := by
  unfold by8; rw [List.map_set]
theorem writes_few (v0 : Value) (xs : List ActT) (w : World) (hx : SliceV w ActT.cells v0 xs) (hxr : ∀ y ∈ xs, ActT.R w y) :
    Calls Tryd.prog 34 #[v0] w fun e w' => e = .returned (.bool false) ∧ w = w' ∨ e = .returned (.bool true) ∧ w = w' ∧ xs.length ≤ 40 ∧ ∀ y ∈ xs, Small w y := by
  refine (few_any v0 xs w hx hxr).mono ?_
  rintro e w' ⟨b, rfl, h, rfl⟩
  cases b
  · exact .inl ⟨rfl, rfl⟩
  · obtain ⟨h1, h2⟩ := h rfl
    exact .inr ⟨rfl, rfl, h1, h2⟩
set_option maxHeartbeats 1600000 in
set_option maxRecDepth 20000 in
theorem lawWrites (v0 : Value) (xs : List ActT) (w : World) (hx : SliceV w ActT.cells v0 xs) (hxr : ∀ y ∈ xs, ActT.R w y) :
    Calls Tryd.prog 9 #[v0] w fun e w' => e = .returned (.bool true) ∧ Below w.heap.size w w' := by
  have X := Lib.hid hx; have XR := Lib.hid hxr
  obtain ⟨a1, c1, rfl, -, -, hc1, hrow⟩ := hx
  have ROW := Lib.hid hrow
  clear hrow hxr
  go_enter Tryd.func9, Tryd.ntmps9
  go_upto_region 2 with (go_at_call 34; go_loud (refine (writes_few _ xs _ X.out XR.out).mono ?_; rintro e w' (⟨rfl, rfl⟩ | ⟨rfl, rfl, h40, hsm⟩)))
  · go_wp2_with (go_at_call 14; go_loud (refine (known_any _).mono ?_; rintro r w3 ⟨rfl, hw⟩; have B := Lib.hid hw; clear hw))
    go_ret
    exact ⟨rfl, B.out⟩
  · have SM := Lib.hid hsm; clear hsm
    have hm : xs.length ≤ 9223372036854775807 := by omega
    go_loopw [4, 5] (fun want i wr => ∃ (k : Nat) (l : List (BitVec 8)) (v : Value), k ≤ xs.length ∧ i = .int .i64 k ∧ l.length ≤ 1000 * k ∧ WrAt wr w.heap.size w.heap.size v l ∧ wr.ownsRow (w.heap.size + 1) 5 1 want l.length (by8 l) ∧ Hid (∀ g, want.ownBlock = some g → ¬ v.ownBlock = some g) ∧ Below w.heap.size w wr) (fun _ i _ => xs.length - (intOf i).toNat)
    case atStart => exact ⟨0, [], .slice none 0 0, by omega, rfl, by simp, wr_new w, World.ownsRow_nil _ _ _ _, Lib.hid (fun g h => by simp [Value.ownBlock] at h), gr_alloc _ _⟩
    case round =>
      obtain ⟨k, l, v, hk, rfl, hl, hwr, ho, AP, hb⟩ := hrel
      have WR := Lib.hid hwr; have O := Lib.hid ho; have D := Lib.hid hb; have HL := Lib.hid hl; clear hwr ho hb hl
      by_cases hlt : k < xs.length
      · obtain ⟨⟨kd, x, n, fs, bv⟩, hx⟩ : ∃ x, xs[k]? = some x := ⟨xs[k], List.getElem?_eq_getElem hlt⟩
        obtain ⟨fl, bl, hfl, hbl, hn, h20, h100, h1000⟩ := SM.out _ (List.mem_of_getElem? hx)
        have e0 := flat_get ActT.cells_len xs k 0 _ hx (by decide)
        have e1 := flat_get ActT.cells_len xs k 1 _ hx (by decide)
        have e2 := flat_get ActT.cells_len xs k 2 _ hx (by decide)
        have e3 := flat_get ActT.cells_len xs k 3 _ hx (by decide)
        have e4 := flat_get ActT.cells_len xs k 4 _ hx (by decide)
        obtain ⟨bb, oo, rfl, f0⟩ := (ROW.out.below D.out).at (i := k * 5) (v := .int .i64 kd) e0
        obtain ⟨b', o', ee, f1⟩ := (ROW.out.below D.out).at (i := k * 5 + 1) (v := .int .u64 (uv x)) e1
        cases ee
        obtain ⟨b', o', ee, f2⟩ := (ROW.out.below D.out).at (i := k * 5 + 2) (v := .int .i64 n) e2
        cases ee
        obtain ⟨b', o', ee, f3⟩ := (ROW.out.below D.out).at (i := k * 5 + 3) (v := fs) e3
        cases ee
        obtain ⟨b', o', ee, f4⟩ := (ROW.out.below D.out).at (i := k * 5 + 4) (v := bv) e4
        cases ee
        rw [← Nat.add_assoc] at f1 f2 f3 f4
        have AA := Lib.hid (show AddAt w wr w.heap.size w.heap.size v l fs bv fl bl n from ⟨WR.out, hfl, hbl, D.out, Nat.le_refl _, Nat.le_refl _, D.out.size, h20, h100, h1000, hn, by have := HL.out; omega⟩)
        have HLT := Lib.hid hlt
        have HK40 := Lib.hid (show k ≤ 40 by omega)
        obtain ⟨fa, fc, rfl, -⟩ := hfl
        obtain ⟨ba, bc, rfl, -⟩ := hbl
        clear hx hn h20 h100 h1000 e0 e1 e2 e3 e4
        go_upto_region 13 with (first
          | (go_at_call 35; go_loud (refine (add_act w _ w.heap.size w.heap.size v l _ _ fl bl x n kd AA.out).mono ?_; rintro r w1 ⟨u, b, rfl, hu, hbn, ⟨v2, hw2, hat⟩, hc⟩; have U := Lib.hid hu; have HBN := Lib.hid hbn; have W1 := Lib.hid hw2; have AT := Lib.hid hat; have C1 := Lib.hid hc; have D1 := Lib.hid (wr_fresh WR.out hc D.out (Nat.le_refl _) (Nat.le_refl _)); have O1 := Lib.hid (own_chg O.out hc (fun g hg h => by
              rcases h with h | h
              · have := (O.out.lt g hg).1; omega
              · exact AP.out g hg h)); have AP1 := Lib.hid (show ∀ g, (_ : Value).ownBlock = some g → ¬ v2.ownBlock = some g from fun g hg h => by
              rcases AT.out with h1 | ⟨g', h1, h2⟩
              · rw [h1] at h; exact AP.out g hg h
              · rw [h1] at h; cases h; have := (O.out.lt _ hg).2; omega); clear hu hbn hw2 hat hc))
          | (at_builtin; go_loud (refine app_at rfl (.tmp 28) (.tmp 29) rfl _ (w.heap.size + 1) l.length l rfl O1.out (Nat.lt_of_lt_of_le (Array.getElem?_eq_some_iff.1 W1.out.blk).1 (Nat.le_refl _)) u b rfl U.out (by have := HL.out; have := HBN.out; have := HK40.out; omega) ?_; intro v' w2 ho hg ha; obtain ⟨L, hL⟩ : ∃ L, l ++ b = L := ⟨_, rfl⟩; have hLL : l.length + b.length = L.length := (by rw [← hL, List.length_append]); rw [hL, hLL] at ho; rw [hL] at W1; have O2 := Lib.hid ho; have W2 := Lib.hid (W1.out.chg (Chg.of_grown (B := fun b => (_ : Value).ownBlock = some b) hg (fun k hk => hk)) (fun h => by have := (O1.out.lt _ h).1; omega) (fun g hg' h => AP1.out g h hg')); have D2 := Lib.hid (D1.out.grown hg D1.out.size (fun k hk => by have := (O1.out.lt k hk).1; omega)); have AP2 := Lib.hid (show ∀ g, v'.ownBlock = some g → ¬ v2.ownBlock = some g from fun g hg' h => by
              rcases ha with h1 | h1
              · rw [h1] at hg'; exact AP1.out g hg' h
              · rw [h1] at hg'; cases hg'; have := (W1.out.own.lt _ h).2; omega); have HLL := Lib.hid hLL; obtain ⟨sa, sc, rfl⟩ := own_shape O2.out; clear ho hg ha hL hLL))
          | (go_at_call 27; go_loud (refine (Bytes_w _ _ _ _ _ W2.out).mono ?_; rintro r w3 ⟨got, rfl, ho, hw⟩; have G3 := Lib.hid ho; have D3 := Lib.hid (D2.out.trans (hw.mono D2.out.size)); have W3 := Lib.hid (W2.out.below hw); have O3 := Lib.hid (own_below O2.out hw); obtain ⟨ga, gc, rfl⟩ := own_shape ho; clear ho hw))
          | (go_at_call 36; go_loud (refine (Len_w _ _ _ L _ W3.out).mono ?_; rintro r w' ⟨rfl, rfl⟩))
          | (go_at_call 13; go_loud (refine (same_at _ _ L L true _ (BytesV.of_own G3.out) (BytesV.of_own O3.out) (by simp)).mono ?_; rintro r w' ⟨rfl, rfl⟩)))
        go_wp2
        have hlm : L.length ≤ 9223372036854775807 := by have := W3.out.len; omega
        go_loopw [9] (fun j wi => ∃ m : Nat, m ≤ L.length ∧ j = .int .i64 m ∧ (∃ l' : List (BitVec 8), l'.length = L.length ∧ wi.ownsRow w2.heap.size 5 1 (.slice ga L.length gc) L.length (by8 l')) ∧ Chg (fun b => (Value.slice ga L.length gc).ownBlock = some b) w3 wi) (fun j _ => L.length - (intOf j).toNat)
        case atStart => exact ⟨0, by omega, rfl, ⟨L, rfl, G3.out⟩, Chg.refl _ _⟩
        case round =>
          obtain ⟨m, hm2, rfl, ⟨l', hl', ho⟩, hc⟩ := hrel
          have G := Lib.hid ho; have C := Lib.hid hc; have HL' := Lib.hid hl'; clear ho hc hl'
          by_cases hlt2 : m < L.length
          · obtain ⟨g, cg, he⟩ := own_addr2 G.out (by omega)
            injection he with he1 he2 he3
            subst he1 he3
            clear he2
            obtain ⟨y, hy⟩ : ∃ y, l'[m]? = some y := ⟨l'[m]'(by have := HL'.out; omega), List.getElem?_eq_getElem _⟩
            have gx : wr.cell? ⟨g, m, none⟩ = some (.int .u8 (uv y)) := by
              rw [G.out.cellAt m (by omega), by8_get, hy]; rfl
            have fx := G.out.frozenAt m
            clear hy
            go_wp2
            go_roundw
            case rel => exact ⟨m + 1, by omega, by go_num, ⟨l'.set m (255#8 - y), by rw [List.length_set]; exact HL'.out, by rw [← by8_set2]; exact (G.out.stored m _).1⟩, C.out.trans (Chg.setCell (B := fun b => (Value.slice (some ⟨g, 0, none⟩) L.length gc).ownBlock = some b) (p := ⟨g, m, none⟩) _ rfl _)⟩
            case measure => simp [intOf]; omega
          · obtain rfl : m = L.length := by omega
            have W5 := Lib.hid (W3.out.chg C.out (fun h => by have := (G3.out.lt _ h).1; have := (Array.getElem?_eq_some_iff.1 W2.out.blk).1; omega) (fun g hg h => by have := (W2.out.own.lt g hg).2; have := (G3.out.lt g h).1; omega))
            have O5 := Lib.hid (own_chg O3.out C.out (fun g hg h => by have := (O2.out.lt g hg).2; have := (G3.out.lt g h).1; omega))
            have D5 := Lib.hid (C.out.fresh D3.out (fun k hk => by have := (G3.out.lt k hk).1; have := D2.out.size; omega))
            clear hlt2 G C HL'
            go_wp2
            go_roundw
            case rel => exact ⟨k + 1, L, v2, by have := HLT.out; omega, by go_num, by have := HLL.out; have := HBN.out; have := HL.out; omega, W5.out, O5.out, AP2, D5.out⟩
            case measure => have := HLT.out; simp [intOf]; omega
      · obtain rfl : k = xs.length := by omega
        go_wp2_with (go_at_call 14; go_loud (refine (known_any _).mono ?_; rintro r w3 ⟨rfl, hw⟩; have B := Lib.hid (D.out.trans (hw.mono D.out.size)); clear hw))
        go_ret
        exact ⟨rfl, B.out⟩
end Go.Proofs.YteicmbapipnbjaaDoor
