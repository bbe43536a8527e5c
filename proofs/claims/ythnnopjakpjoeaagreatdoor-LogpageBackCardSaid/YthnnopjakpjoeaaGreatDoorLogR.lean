/- The reference of layer 23: put, get, check; Zeros. -/
import Derived.Test.YthnnopjakpjoeaaGreatDoorLogMath
import Derived.Test.YthnnopjakpjoeaaGreatDoorCopyIn
import Derived.Test.YthnnopjakpjoeaaGreatDoorWireMath3
import Derived.Test.YthnnopjakpjoeaaGreatDoorRef01
import Derived.Test.YthnnopjakpjoeaaGreatDoorPadA
import Derived.Deep.DeepCutAuto
namespace Go.Proofs.YthnnopjakpjoeaaGreatDoor
open Go.RowKit Lg
set_option linter.unusedVariables false
set_option linter.unusedSimpArgs false
theorem Chg.fresh {B : Nat → Prop} {w w1 w2 : World} (h : Chg B w1 w2) (hb : Below w.heap.size w w1) (hq : ∀ k, B k → w.heap.size ≤ k) : Below w.heap.size w w2 :=
  hb.trans (h.below hq hb.size)
theorem by8_setL (l : List (BitVec 8)) (k : Nat) (y : BitVec 8) : (by8 l).set k (.int .u8 (uv y)) = by8 (l.set k y) := by
  unfold by8; rw [List.map_set]
theorem le_more23 (v : BitVec 64) (k : Nat) : Wire.le v (k + 1) = Wire.le v k ++ [(v >>> (8 * k)).setWidth 8] := by
  unfold Wire.le; rw [List.range_succ, List.map_append]; rfl
/-- A slice of N bytes that the call owns. -/
def OwnN (N : Nat) (w : World) (base g cap : Nat) (l : List (BitVec 8)) : Prop := w.ownsRow base 5 1 (.slice (some ⟨g, 0, none⟩) N cap) N (by8 l)
theorem OwnN.len {N : Nat} {w : World} {base g cap : Nat} {l : List (BitVec 8)} (h : OwnN N w base g cap l) : l.length = N := by have := h.1; rwa [by8_length, Nat.mul_one] at this
theorem OwnN.below {N : Nat} {w w' : World} {base g cap : Nat} {l : List (BitVec 8)} (h : OwnN N w base g cap l) (hb : Below w.heap.size w w') : OwnN N w' base g cap l := own_below h hb
theorem OwnN.lt {N : Nat} {w : World} {base g cap : Nat} {l : List (BitVec 8)} (h : OwnN N w base g cap l) : base ≤ g ∧ g < w.heap.size := World.ownsRow.lt h g rfl
theorem OwnN.bytes {N : Nat} {w : World} {base g cap : Nat} {l : List (BitVec 8)} (h : OwnN N w base g cap l) : BytesV w (.slice (some ⟨g, 0, none⟩) N cap) l := by
  have hl := h.len
  unfold OwnN at h
  subst hl
  exact BytesV.of_own h
/-- 'b[k] = y'. -/
theorem OwnN.set {N : Nat} {w : World} {base g cap : Nat} {l : List (BitVec 8)} (h : OwnN N w base g cap l) (k : Nat) (y : BitVec 8) : OwnN N (w.setCell ⟨g, k, none⟩ (.int .u8 (uv y))) base g cap (l.set k y) := by
  unfold OwnN; rw [← by8_setL]; exact (World.ownsRow.stored h k (.int .u8 (uv y))).1
theorem get_more23 (l : List (BitVec 8)) (a n q : Nat) (x : BitVec 8) (hq : q < n) (h : l[a + q]? = some x) : Wire.get ((cut l a n).drop q) = Wire.get ((cut l a n).drop (q + 1)) <<< 8 ||| x.setWidth 64 := by
  refine Wire.get_drop _ q x ?_
  unfold cut
  rw [List.getElem?_take_of_lt hq, List.getElem?_drop, h]
def chkE (l : List (BitVec 8)) (n : Nat) : Int := if l.length < n then 4 else if n < l.length then 5 else 0
set_option maxRecDepth 20000 in
theorem check23 (v : Value) (l : List (BitVec 8)) (n : Nat) (m : Int) (e : Int) (w : World) (hm : m = n) (hv : BytesV w v l) (he : chkE l n = e) :
    Calls Tryz.prog 39 #[v, .int .i64 m] w fun r w' => r = .returned (.int .i64 e) ∧ w = w' := by
  subst hm
  subst he
  unfold chkE
  obtain ⟨a, c, rfl, h0, h1, h2, h3⟩ := hv
  have hm : l.length ≤ 9223372036854775807 := by omega
  clear h0 h1 h2 h3
  by_cases p1 : l.length < n
  · rw [if_pos p1]
    have d1 : decide ((l.length : Int) < (n : Int)) = true := decide_eq_true (by omega)
    have d3 : decide (l.length < n) = true := decide_eq_true (by omega); clear p1
    go_enter Tryz.func39, Tryz.ntmps39
    go_wp2
    go_ret
    exact ⟨rfl, rfl⟩
  · rw [if_neg p1]
    by_cases p2 : n < l.length
    · rw [if_pos p2]
      have d1 : decide (l.length < n) = false := decide_eq_false (by omega); have d2 : decide (n < l.length) = true := decide_eq_true (by omega); clear p1 p2
      go_enter Tryz.func39, Tryz.ntmps39
      go_wp2
      go_ret
      exact ⟨rfl, rfl⟩
    · rw [if_neg p2]
      have d1 : decide (l.length < n) = false := decide_eq_false (by omega); have d2 : decide (n < l.length) = false := decide_eq_false (by omega); clear p1 p2
      go_enter Tryz.func39, Tryz.ntmps39
      go_wp2
      go_ret
      exact ⟨rfl, rfl⟩
theorem rZeros_at (v : Value) (l : List (BitVec 8)) (b : Bool) (w : World) (hv : BytesV w v l) (hb : allZ l = b) :
    Calls Tryz.prog 40 #[v] w fun e w' => e = .returned (.bool b) ∧ w = w' := by
  subst hb
  obtain ⟨a, c, rfl, _, _, hc, hr⟩ := hv
  have hm : l.length ≤ 9223372036854775807 := by omega
  have R := Lib.hid hr; clear hr
  go_enter Tryz.func40, Tryz.ntmps40
  go_wp2
  go_loopw [3] (fun i wr => ∃ k : Nat, k ≤ l.length ∧ i = .int .i64 k ∧ Hid (allZ (l.take k) = true) ∧ wr = w) (fun i _ => l.length - (intOf i).toNat)
  case atStart => exact ⟨0, by omega, rfl, rfl, rfl⟩
  case round =>
    obtain ⟨k, hk, rfl, hz, rfl⟩ := hrel
    by_cases hlt : k < l.length
    · obtain ⟨x, hx⟩ : ∃ x, l[k]? = some x := ⟨l[k], List.getElem?_eq_getElem hlt⟩
      have hb : (by8 l)[k]? = some (.int .u8 (uv x)) := by rw [by8_get, hx]; rfl
      obtain ⟨b, o, rfl, c0⟩ := R.out.at hb
      have ht : l.take (k + 1) = l.take k ++ [x] := by
        obtain ⟨h1, rfl⟩ := List.getElem?_eq_some_iff.1 hx
        exact List.take_succ_eq_append_getElem h1
      have HT := Lib.hid ht; have HX := Lib.hid hx; clear hb ht hx
      by_cases h0 : x = 0#8
      · subst h0
        go_wp2
        go_roundw
        case rel => exact ⟨k + 1, by omega, by go_num, Lib.hid (by have := hz.out; unfold allZ at this ⊢; rw [HT.out, List.all_append, this]; decide), trivial⟩
        case measure => simp [intOf]; omega
      · have hq : (uv x != 0) = true := by
          have := uv_pos x h0
          simp; omega
        have hn : allZ l = false := by
          unfold allZ
          rw [List.all_eq_false]
          exact ⟨x, List.mem_of_getElem? HX.out, by simpa using h0⟩
        have HN := Lib.hid hn; clear hn h0
        go_wp2
        go_ret
        exact ⟨by rw [HN.out]; rfl, rfl⟩
    · obtain rfl : k = l.length := by omega
      have hn := hz.out
      rw [List.take_length] at hn
      have HN := Lib.hid hn; clear hn
      go_wp2
      go_ret
      exact ⟨by rw [HN.out]; rfl, rfl⟩
theorem cut_all (l : List (BitVec 8)) (a : Nat) (n : Nat) (h : a + n = l.length) : l.drop a = cut l a n := by
  unfold cut; rw [List.take_of_length_le (by rw [List.length_drop]; omega)]
end Go.Proofs.YthnnopjakpjoeaaGreatDoor
