/- The law LogpageSlices: the reference's Slice. -/
import Derived.Test.YthnnopjakpjoeaaDoorLaw23A
namespace Go.Proofs.YthnnopjakpjoeaaDoor
open Go.RowKit Lg
set_option linter.unusedVariables false
set_option linter.unusedSimpArgs false
namespace Lg
/-- The byte at a place, 0 behind the end. -/
def at0 (l : List (BitVec 8)) (i : Nat) : BitVec 8 := l.getD i 0#8
def outK (l : List (BitVec 8)) (o k : Nat) : List (BitVec 8) := (List.range k).map fun i => at0 l (o + i)
theorem outK_succ (l : List (BitVec 8)) (o k : Nat) : outK l o (k + 1) = outK l o k ++ [at0 l (o + k)] := by unfold outK; rw [List.range_succ, List.map_append]; rfl
theorem outK_len (l : List (BitVec 8)) (o k : Nat) : (outK l o k).length = k := by unfold outK; simp
theorem outK_slB (l : List (BitVec 8)) (o : BitVec 64) (d : BitVec 32) (h : o.toNat ≤ l.length) : outK l o.toNat (4 * d.toNat) = slB l o d := by
  apply List.ext_getElem?
  intro i
  unfold outK slB at0
  rw [List.getElem?_map]
  by_cases hi : i < 4 * d.toNat
  · rw [List.getElem?_range hi, Option.map_some]
    by_cases h2 : i < l.length - o.toNat
    · rw [List.getElem?_append_left (by rw [List.length_take, List.length_drop]; omega), List.getElem?_take_of_lt hi, List.getElem?_drop, List.getD_eq_getElem?_getD, List.getElem?_eq_getElem (by omega)]; rfl
    · rw [List.getElem?_append_right (by rw [List.length_take, List.length_drop]; omega), List.getElem?_replicate, if_pos (by rw [List.length_take, List.length_drop]; omega), List.getD_eq_getElem?_getD, List.getElem?_eq_none (by omega)]; rfl
  · rw [List.getElem?_eq_none (by rw [List.length_range]; omega), List.getElem?_eq_none (by rw [List.length_append, List.length_take, List.length_drop, List.length_replicate]; omega)]; rfl
end Lg
set_option maxHeartbeats 1600000 in
set_option maxRecDepth 20000 in
theorem rSlice_at (v : Value) (l : List (BitVec 8)) (o : BitVec 64) (d : BitVec 32) (b : Bool) (B : List (BitVec 8)) (w : World) (hv : BytesV w v l) (hl : l.length ≤ 100000) (hb : slOk l o d = b) (hB : slR l o d = B) :
    Calls Tryd.prog 15 #[v, .int .u64 (uv o), .int .u32 (uv d)] w fun r w' => ∃ u, r = .returned (.tuple #[u, .bool b]) ∧ BytesV w' u B ∧ Below w.heap.size w w' := by
  have V := Lib.hid hv
  obtain ⟨av, cv, rfl, h0, h1, h2, h3⟩ := hv
  have ROW := Lib.hid h3
  have hm : (l.length : Int) ≤ 100000 := by omega
  unfold slR at hB
  rw [hb] at hB
  obtain ⟨r, hr⟩ : ∃ r : Int, (uv o).tmod 4 = r := ⟨_, rfl⟩
  have hr4 : r = ((o.toNat % 4 : Nat) : Int) := by rw [← hr]; show ((o.toNat : Int)).tmod 4 = _; rw [Int.tmod_eq_emod_of_nonneg (by omega)]; omega
  have hlen : uv (BitVec.ofNat 64 l.length) = (l.length : Int) := by show ((BitVec.ofNat 64 l.length).toNat : Int) = _; rw [BitVec.toNat_ofNat, Nat.mod_eq_of_lt (by omega)]
  have ho : uv o = o.toNat := rfl
  have hd : uv d = d.toNat := rfl
  unfold slOk at hb
  clear h0 h1 h2 h3
  by_cases c1 : ¬ r = 0
  · have hq : (r != 0) = true := by simpa using c1
    rw [decide_eq_false (by omega : ¬ o.toNat % 4 = 0), Bool.false_and] at hb
    subst hb
    clear c1 hr4 ho hd
    simp only [Bool.false_eq_true, if_false] at hB
    subst hB
    go_enter Tryd.func15, Tryd.ntmps15
    go_wp2
    go_ret2
    exact ⟨_, rfl, BytesV.nil _, Below.refl _ _⟩
  replace c1 := Decidable.not_not.1 c1
  subst c1
  rw [decide_eq_true (by omega : o.toNat % 4 = 0), Bool.true_and] at hb
  by_cases c2 : ¬ o.toNat ≤ l.length
  · have hq : decide ((l.length : Int) < uv o) = true := decide_eq_true (by omega)
    rw [decide_eq_false c2, Bool.false_and] at hb
    subst hb
    clear c2 hr4 ho hd
    simp only [Bool.false_eq_true, if_false] at hB
    subst hB
    go_enter Tryd.func15, Tryd.ntmps15
    go_wp2
    go_ret2
    exact ⟨_, rfl, BytesV.nil _, Below.refl _ _⟩
  replace c2 := Decidable.not_not.1 c2
  have hq2 : decide ((l.length : Int) < uv o) = false := decide_eq_false (by omega)
  rw [decide_eq_true c2, Bool.true_and] at hb
  by_cases c3 : ¬ 1 ≤ d.toNat
  · have hq : (uv d == 0) = true := by rw [hd]; simp; omega
    rw [decide_eq_false c3, Bool.false_and] at hb
    subst hb
    clear c3 c2 hr4 ho hd
    simp only [Bool.false_eq_true, if_false] at hB
    subst hB
    go_enter Tryd.func15, Tryd.ntmps15
    go_wp2
    go_ret2
    exact ⟨_, rfl, BytesV.nil _, Below.refl _ _⟩
  replace c3 := Decidable.not_not.1 c3
  have hq3 : (uv d == 0) = false := by rw [hd]; simp; omega
  rw [decide_eq_true c3, Bool.true_and] at hb
  by_cases c4 : ¬ d.toNat ≤ 65536
  · have hq : decide (65536 < uv d) = true := decide_eq_true (by omega)
    rw [decide_eq_false c4] at hb
    subst hb
    clear c4 c3 c2 hr4 ho hd
    simp only [Bool.false_eq_true, if_false] at hB
    subst hB
    go_enter Tryd.func15, Tryd.ntmps15
    go_wp2
    go_ret2
    exact ⟨_, rfl, BytesV.nil _, Below.refl _ _⟩
  replace c4 := Decidable.not_not.1 c4
  have hq4 : decide (65536 < uv d) = false := decide_eq_false (by omega)
  rw [decide_eq_true c4] at hb
  subst hb
  rw [if_pos rfl] at hB
  have HB := Lib.hid (show outK l o.toNat (4 * d.toNat) = B by rw [outK_slB l o d c2]; exact hB)
  obtain ⟨D, hD⟩ : ∃ D, d.toNat = D := ⟨_, rfl⟩
  obtain ⟨P, hP⟩ : ∃ P, o.toNat = P := ⟨_, rfl⟩
  have hud : uv d = (D : Int) := by rw [hd, hD]
  have hD1 : (D : Int) ≤ 65536 := by omega
  have hP1 : (P : Int) ≤ 100000 := by omega
  have HP := Lib.hid (show P ≤ 100000 by omega); have HD := Lib.hid (show D ≤ 65536 by omega)
  have huo := ho
  rw [hP] at huo
  rw [hD, hP] at HB
  have HOP := Lib.hid hP
  rw [huo] at hr hq2
  rw [hud] at hq3 hq4
  have hq2b : decide (l.length < P) = false := decide_eq_false (by have := of_decide_eq_false hq2; omega)
  have hq3b : (D == 0) = false := by simp; omega
  have hq4b : decide (65536 < D) = false := decide_eq_false (by omega)
  rw [huo, hud]
  clear c2 c3 c4 hr4 ho hd hB hud huo
  go_enter Tryd.func15, Tryd.ntmps15
  go_wp2
  clear hq2 hq3 hq4 hq2b hq3b hq4b
  go_loopw [8, 9] (fun u i wr => ∃ k : Nat, k ≤ 4 * D ∧ i = .int .i64 k ∧ wr.ownsRow w.heap.size 5 1 u k (by8 (outK l P k)) ∧ Below w.heap.size w wr) (fun _ i _ => 4 * D - (intOf i).toNat)
  case atStart => exact ⟨0, by omega, rfl, World.ownsRow_nil _ _ _ _, Below.refl _ _⟩
  case round =>
    obtain ⟨k, hk, rfl, how, hb⟩ := hrel
    have O := Lib.hid how; have C := Lib.hid hb; clear how hb
    have hk2 : (k : Int) ≤ 262144 := by have := HD.out; omega
    have e4 : IntKind.i64.wrap (4 * (D : Int)) = ((4 * D : Nat) : Int) := by have := HD.out; unfold IntKind.wrap; simp [IntKind.bits, IntKind.signed]; omega
    obtain ⟨T, hT⟩ : ∃ T, P + k = T := ⟨_, rfl⟩
    have HTT := Lib.hid hT
    have hsum : uv (BitVec.ofNat 64 P + BitVec.ofNat 64 k) = (T : Int) := by
      show ((BitVec.ofNat 64 P + BitVec.ofNat 64 k).toNat : Int) = _
      rw [BitVec.toNat_add, BitVec.toNat_ofNat, BitVec.toNat_ofNat]
      have := HP.out
      omega
    have hT1 : (T : Int) ≤ 1000000 := by have := HP.out; omega
    clear hT
    by_cases hlt : k < 4 * D
    · have hlt2 : (k : Int) < 4 * (D : Int) := by omega
      by_cases htl : T < l.length
      · obtain ⟨y, hy⟩ : ∃ y, l[T]? = some y := ⟨_, List.getElem?_eq_getElem htl⟩
        obtain ⟨g, q, rfl, c0⟩ := (ROW.out.below C.out).at (i := T) (v := .int .u8 (uv y)) (by rw [by8_get, hy]; rfl)
        have HA := Lib.hid (show at0 l (P + k) = y by rw [HTT.out]; unfold at0; rw [List.getD_eq_getElem?_getD, hy]; rfl)
        clear hy
        go_wp2_with (at_builtin; go_loud (refine app_more rfl (.tmp 50) (.tmp 52) rfl u8 w.heap.size k (outK l P k) rfl (own_below O.out (gr_alloc wr (.cells #[.int .u8 (uv y)] 5))) (Nat.le_trans C.out.size (gr_alloc wr (.cells #[.int .u8 (uv y)] 5)).size) _ [y] rfl (BytesV.one wr y 5) (by have := HD.out; simp; omega) ?_; intro v2 w2 ho hg hb; have O2 := Lib.hid ho; have C2 := Lib.hid ((C.out.trans ((gr_alloc wr (.cells #[.int .u8 (uv y)] 5)).mono C.out.size)).trans hb); clear ho hg hb))
        go_roundw
        case rel => exact ⟨k + 1, by omega, by go_num, by rw [outK_succ, HA.out]; exact O2.out, C2.out⟩
        case measure => simp [intOf]; omega
      · have HA := Lib.hid (show at0 l (P + k) = 0#8 by rw [HTT.out]; unfold at0; rw [List.getD_eq_getElem?_getD, List.getElem?_eq_none (by omega)]; rfl)
        go_wp2_with (at_builtin; go_loud (refine app_more rfl (.tmp 50) (.tmp 52) rfl u8 w.heap.size k (outK l P k) rfl (own_below O.out (gr_alloc wr (.cells #[.int .u8 0] 5))) (Nat.le_trans C.out.size (gr_alloc wr (.cells #[.int .u8 0] 5)).size) _ [0#8] rfl (BytesV.one wr 0#8 5) (by have := HD.out; simp; omega) ?_; intro v2 w2 ho hg hb; have O2 := Lib.hid ho; have C2 := Lib.hid ((C.out.trans ((gr_alloc wr (.cells #[.int .u8 0] 5)).mono C.out.size)).trans hb); clear ho hg hb))
        go_roundw
        case rel => exact ⟨k + 1, by omega, by go_num, by rw [outK_succ, HA.out]; exact O2.out, C2.out⟩
        case measure => simp [intOf]; omega
    · obtain rfl : k = 4 * D := by omega
      have hn : ¬ (((4 * D : Nat) : Int) < 4 * (D : Int)) := by omega
      have ho := O.out
      rw [HB.out] at ho
      have BL : B.length = 4 * D := by have := ho.1; rwa [by8_length, Nat.mul_one] at this
      have V9 := Lib.hid (BytesV.of_own (l := B) (by rwa [← BL] at ho))
      clear ho BL
      go_wp2
      go_ret2
      exact ⟨_, rfl, V9.out, C.out⟩
end Go.Proofs.YthnnopjakpjoeaaDoor
