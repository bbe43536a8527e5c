/- The walk of WireReads. -/
import Derived.Test.YteicmbapipnbjaaDoorLaw01I
import Derived.Test.YteicmbapipnbjaaDoorLaw01J
import Derived.Test.YteicmbapipnbjaaDoorOpenL
namespace Go.Proofs.YteicmbapipnbjaaDoor
open Go.RowKit
set_option linter.unusedVariables false
set_option linter.unusedSimpArgs false
theorem look_any (w0 w : World) (p d : Nat) (v bv sv : Value) (l L : List (BitVec 8)) (ks : List Int) (q : Nat) (kd n : Int) (h : LookAt w0 w p d v bv sv l L ks q) :
    Calls Tryd.prog 32 #[.pointer (some ⟨p, 0, none⟩), bv, .int .i64 q, .agg #[.int .i64 kd, .int .i64 n, sv]] w (LookOut w0 p d l) := by
  by_cases h5 : kd < 0 ∨ 4 < kd
  · exact look5 w0 w p d v bv sv l L ks q n kd h h5
  · have : kd = 0 ∨ kd = 1 ∨ kd = 2 ∨ kd = 3 ∨ kd = 4 := by omega
    rcases this with rfl | rfl | rfl | rfl | rfl
    · rcases Wire.takeE_cases L n with h1 | ⟨h1, j, rfl, h2, h3, h4⟩
      · exact look0_no w0 w p d v bv sv l L ks q n _ h rfl h1
      · exact look0_ok w0 w p d v bv sv l L ks q j h h2 h3 h4
    · by_cases h1 : Wire.readE L ks = 0
      · exact look1_ok w0 w p d v bv sv l L ks q n h h1
      · exact look1_no w0 w p d v bv sv l L ks q n _ h rfl h1
    · exact look2 w0 w p d v bv sv l L ks q n h
    · exact look3 w0 w p d v bv sv l L ks q n h
    · exact look4 w0 w p d v bv sv l L ks q n h
theorem NewReader_new (u : Value) (l : List (BitVec 8)) (w : World) (hu : BytesV w u l) (hs : l.length ≤ 140737488355328) :
    Calls Tryd.prog 26 #[u] w fun e w' => ∃ p v, e = .returned (.pointer (some ⟨p, 0, none⟩)) ∧ w.heap.size ≤ p ∧ RdAt w' 99 p p v l 0 ∧ (∀ g o m c, v = .slice (some ⟨g, o, none⟩) m c → w.heap.size ≤ g) ∧ Below w.heap.size w w' := by
  go_enter Tryd.func26, Tryd.ntmps26
  go_wp2_with (go_at_call 57; refine (Clone_any _ l _ hu hs).mono ?_; rintro r w1 ⟨u1, rfl, hown, hb1⟩; obtain ⟨a1, c1, rfl⟩ := own_shape hown; have U := Lib.hid (BytesV.of_own hown); have O := Lib.hid hown; have B := Lib.hid hb1; clear hown hb1)
  go_ret
  refine ⟨_, _, rfl, B.out.size, ⟨heap_alloc_new _ _, U.out.below (gr_alloc _ _), by omega, fun ad m c e => by cases e; exact (O.out.lt _ rfl).2, Nat.le_refl _⟩, fun g o m c e => by cases e; exact (O.out.lt _ rfl).1, gr_tr B.out (gr_alloc _ _)⟩
theorem RdAt.chg {B : Nat → Prop} {w w' : World} {T : TypeId} {r d : Nat} {v : Value} {l : List (BitVec 8)} {n : Nat} (h : RdAt w T r d v l n) (c : Chg B w w') (hr : ¬ B r) (ho : Off B v) : RdAt w' T r d v l n :=
  ⟨c.blk h.blk hr, h.bytes.chg c ho, h.small, h.old, h.le⟩
theorem by8_set (l : List (BitVec 8)) (k : Nat) (y : BitVec 8) : (by8 l).set k (.int .u8 (uv y)) = by8 (l.set k y) := by
  unfold by8; rw [List.map_set]
theorem own_addr {w : World} {base n : Nat} {e : TypeId} {v : Value} {xs : List Value} (h : w.ownsRow base e 1 v n xs) (hn : 0 < n) : ∃ g c, v = .slice (some ⟨g, 0, none⟩) n c := by
  obtain ⟨h1, h2⟩ := h
  rcases h2 with ⟨_, h0⟩ | ⟨g, cap, cur, rfl, _⟩
  · omega
  · exact ⟨g, cap, rfl⟩
theorem reads_long (v0 v1 : Value) (l : List (BitVec 8)) (xs : List LookT) (w : World) (hv : BytesV w v0 l) (hx : SliceV w LookT.cells v1 xs) (h : 200 < l.length ∨ (l.length ≤ 200 ∧ 40 < xs.length)) :
    Calls Tryd.prog 8 #[v0, v1] w fun e w' => e = .returned (.bool true) ∧ Below w.heap.size w w' := by
  obtain ⟨a, c, rfl, -⟩ := hv
  obtain ⟨a1, c1, rfl, -⟩ := hx
  rcases h with h | ⟨h, h'⟩
  · have hd : decide ((200 : Int) < (l.length : Int)) = true := decide_eq_true (by omega)
    clear h
    go_enter Tryd.func8, Tryd.ntmps8
    go_wp2_with (go_at_call 14; go_loud (refine (known_any _).mono ?_; rintro r w3 ⟨rfl, hw⟩; have B := Lib.hid hw; clear hw))
    go_ret
    exact ⟨rfl, B.out⟩
  · have hd : decide ((200 : Int) < (l.length : Int)) = false := decide_eq_false (by omega)
    have hd2 : decide ((40 : Int) < (xs.length : Int)) = true := decide_eq_true (by omega)
    clear h h'
    go_enter Tryd.func8, Tryd.ntmps8
    go_wp2_with (go_at_call 14; go_loud (refine (known_any _).mono ?_; rintro r w3 ⟨rfl, hw⟩; have B := Lib.hid hw; clear hw))
    go_ret
    exact ⟨rfl, B.out⟩
set_option maxHeartbeats 1600000 in
set_option maxRecDepth 20000 in
theorem reads_in (v0 v1 : Value) (l : List (BitVec 8)) (xs : List LookT) (w : World) (hv : BytesV w v0 l) (hx : SliceV w LookT.cells v1 xs) (hxr : ∀ y ∈ xs, LookT.R w y) (h1 : l.length ≤ 200) (h2 : xs.length ≤ 40) :
    Calls Tryd.prog 8 #[v0, v1] w fun e w' => e = .returned (.bool true) ∧ Below w.heap.size w w' := by
  have V := Lib.hid hv; have X := Lib.hid hx; have XR := Lib.hid hxr
  obtain ⟨a, c, rfl, -⟩ := hv
  obtain ⟨a1, c1, rfl, -, -, hc1, hrow⟩ := hx
  have ROW := Lib.hid hrow
  have hd : decide ((200 : Int) < (l.length : Int)) = false := decide_eq_false (by omega)
  have hd2 : decide ((40 : Int) < (xs.length : Int)) = false := decide_eq_false (by omega)
  have hm : xs.length ≤ 9223372036854775807 := by omega
  have hm2 : l.length ≤ 9223372036854775807 := by omega
  clear hrow hxr
  go_enter Tryd.func8, Tryd.ntmps8
  go_wp2_with (first
    | (go_at_call 31; go_loud (refine (Own_any _ l _ V.out (by omega)).mono ?_; rintro r w1 ⟨own, rfl, ho, hw⟩; have O1 := Lib.hid ho; have D1 := Lib.hid hw; obtain ⟨ao, co, rfl⟩ := own_shape ho; clear ho hw))
    | (go_at_call 26; go_loud (refine (NewReader_new _ l _ (BytesV.of_own O1.out) (by omega)).mono ?_; rintro r w2 ⟨p, v, rfl, hp, hr, hn, hw⟩; have R2 := Lib.hid hr; have HP := Lib.hid hp; have HN := Lib.hid hn; have O2 := Lib.hid (own_below O1.out hw); have D2 := Lib.hid (D1.out.trans (hw.mono D1.out.size)); have W12 := Lib.hid hw; clear hr hp hn hw)))
  go_loopw [7] (fun i wr => ∃ k : Nat, k ≤ l.length ∧ i = .int .i64 k ∧ (∃ l' : List (BitVec 8), l'.length = l.length ∧ wr.ownsRow w.heap.size 5 1 (.slice ao l.length co) l.length (by8 l')) ∧ Chg (fun b => (Value.slice ao l.length co).ownBlock = some b) w2 wr) (fun i _ => l.length - (intOf i).toNat)
  case atStart => exact ⟨0, by omega, rfl, ⟨l, rfl, O2.out⟩, Chg.refl _ _⟩
  case round =>
    obtain ⟨k, hk, rfl, ⟨l', hl', ho⟩, hc⟩ := hrel
    have O := Lib.hid ho; have C := Lib.hid hc; have HL' := Lib.hid hl'; clear ho hc hl'
    by_cases hlt : k < l.length
    · obtain ⟨g, cg, he⟩ := own_addr O.out (by omega)
      injection he with he1 he2 he3
      subst he1 he3
      clear he2
      obtain ⟨y, hy⟩ : ∃ y, l'[k]? = some y := ⟨l'[k]'(by have := HL'.out; omega), List.getElem?_eq_getElem _⟩
      have gx : wr.cell? ⟨g, k, none⟩ = some (.int .u8 (uv y)) := by
        rw [O.out.cellAt k (by omega), by8_get, hy]; rfl
      have fx := O.out.frozenAt k
      clear hy
      go_wp2
      go_roundw
      case rel => exact ⟨k + 1, by omega, by go_num, ⟨l'.set k (y + 1#8), by rw [List.length_set]; exact HL'.out, by rw [← by8_set]; exact (O.out.stored k _).1⟩, C.out.trans (Chg.setCell (B := fun b => (Value.slice (some ⟨g, 0, none⟩) l.length co).ownBlock = some b) (p := ⟨g, k, none⟩) _ rfl _)⟩
      case measure => simp [intOf]; omega
    · obtain rfl : k = l.length := by omega
      have hb3 : Below w.heap.size w wr := by
        refine C.out.fresh D2.out (fun k hk => (O2.out.lt k hk).1)
      have hr3 : RdAt wr 99 p p v l 0 := by
        refine R2.out.chg C.out (fun h => ?_) (fun g o n c e h => ?_)
        · have := (O1.out.lt p h).2; have := HP.out; omega
        · have := (O1.out.lt g h).2; have := HN.out g o n c e; omega
      have D3 := Lib.hid hb3; have R3 := Lib.hid hr3
      have HP0 := Lib.hid (Nat.le_trans D1.out.size HP.out)
      clear hb3 hr3 hlt O C HL' O1 O2 R2 HN W12 D1 D2 HP
      go_wp2
      go_loopw [8, 9] (fun at' i wr => ∃ k q : Nat, k ≤ xs.length ∧ q ≤ l.length ∧ i = .int .i64 k ∧ at' = .int .i64 q ∧ (∃ v', RdAt wr 99 p p v' (l.drop q) q) ∧ Below w.heap.size w wr) (fun _ i _ => xs.length - (intOf i).toNat)
      case atStart => exact ⟨0, 0, by omega, by omega, rfl, rfl, ⟨v, R3.out⟩, D3.out⟩
      case round =>
        obtain ⟨k, q, hk, hq, rfl, rfl, ⟨v', hr⟩, hb⟩ := hrel
        have R := Lib.hid hr; have D := Lib.hid hb; clear hr hb
        by_cases hlt : k < xs.length
        · obtain ⟨⟨kd, n, sv⟩, hx⟩ : ∃ x, xs[k]? = some x := ⟨xs[k], List.getElem?_eq_getElem hlt⟩
          obtain ⟨-, -, ks, hks, -⟩ := XR.out _ (List.mem_of_getElem? hx)
          have hks := IntsV.of_slice hks
          have e0 := flat_get LookT.cells_len xs k 0 _ hx (by decide)
          have e1 := flat_get LookT.cells_len xs k 1 _ hx (by decide)
          have e2 := flat_get LookT.cells_len xs k 2 _ hx (by decide)
          obtain ⟨bb, oo, rfl, f0⟩ := (ROW.out.below D.out).at (i := k * 3) (v := .int .i64 kd) e0
          obtain ⟨b', o', ee, f1⟩ := (ROW.out.below D.out).at (i := k * 3 + 1) (v := .int .i64 n) e1
          cases ee
          obtain ⟨b', o', ee, f2⟩ := (ROW.out.below D.out).at (i := k * 3 + 2) (v := sv) e2
          cases ee
          rw [← Nat.add_assoc] at f1 f2
          have KS := Lib.hid hks
          obtain ⟨ai, cs, rfl, -⟩ := id hks
          clear hx hks e0 e1 e2
          by_cases h20 : 20 < ks.length
          · have q1 : decide ((20 : Int) < (ks.length : Int)) = true := decide_eq_true (by omega)
            clear h20
            go_wp2_with (go_at_call 14; go_loud (refine (known_any _).mono ?_; rintro r w3 ⟨rfl, hw⟩; have B := Lib.hid (D.out.trans (hw.mono D.out.size)); clear hw))
            go_ret
            exact ⟨rfl, B.out⟩
          · have q1 : decide ((20 : Int) < (ks.length : Int)) = false := decide_eq_false (by omega)
            have LK := Lib.hid (show LookAt w wr p p v' _ _ l (l.drop q) ks q from ⟨R.out, V.out, KS.out, D.out, HP0.out, h1, by omega, hq, rfl⟩)
            clear h20
            go_wp2_with (first
              | (go_at_call 32; go_loud (refine (look_any w _ p p v' _ _ l (l.drop q) ks q kd n LK.out).mono ?_; rintro r w4 ⟨q', rfl, hq', ⟨v4, hr⟩, hw⟩; have R4 := Lib.hid hr; have D4 := Lib.hid hw; have HD := Lib.hid (show ((l.drop q').length : Int) = (l.length : Int) - (q' : Int) by rw [List.length_drop]; omega); clear hr hw))
              | (go_at_call 33; go_loud (refine (At_any _ _ _ _ _ _ R4.out).mono ?_; rintro r w' ⟨rfl, rfl⟩))
              | (go_at_call 30; go_loud (refine (Left_any _ _ _ _ _ _ R4.out).mono ?_; rw [HD.out]; rintro r w' ⟨rfl, rfl⟩)))
            go_roundw
            case rel => exact ⟨k + 1, q', by omega, hq', by go_num, rfl, ⟨v4, R4.out⟩, D4.out⟩
            case measure => simp [intOf]; omega
        · obtain rfl : k = xs.length := by omega
          go_wp2_with (go_at_call 14; go_loud (refine (known_any _).mono ?_; rintro r w3 ⟨rfl, hw⟩; have B := Lib.hid (D.out.trans (hw.mono D.out.size)); clear hw))
          go_ret
          exact ⟨rfl, B.out⟩
theorem lawReads (v0 : Value) (l : List (BitVec 8)) (v1 : Value) (xs : List LookT) (w : World) (hv : BytesV w v0 l) (hx : SliceV w LookT.cells v1 xs) (hxr : ∀ y ∈ xs, LookT.R w y) :
    Calls Tryd.prog 8 #[v0, v1] w fun e w' => e = .returned (.bool true) ∧ Below w.heap.size w w' := by
  by_cases h : 200 < l.length ∨ (l.length ≤ 200 ∧ 40 < xs.length)
  · exact reads_long v0 v1 l xs w hv hx h
  · exact reads_in v0 v1 l xs w hv hx hxr (by omega) (by omega)
end Go.Proofs.YteicmbapipnbjaaDoor
