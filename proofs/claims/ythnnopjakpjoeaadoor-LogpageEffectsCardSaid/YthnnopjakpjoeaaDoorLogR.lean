/- The reference of layer 23: put, get, check; Zeros. -/
import Derived.Test.YthnnopjakpjoeaaDoorLogMath
import Derived.Test.YthnnopjakpjoeaaDoorCopyIn
import Derived.Test.YthnnopjakpjoeaaDoorWireMath3
import Derived.Test.YthnnopjakpjoeaaDoorRef01
import Derived.Test.YthnnopjakpjoeaaDoorRef24A
import Derived.Deep.DeepCutAuto
namespace Go.Proofs.YthnnopjakpjoeaaDoor
open Go.RowKit Lg
set_option linter.unusedVariables false
set_option linter.unusedSimpArgs false
theorem le_more23 (v : BitVec 64) (k : Nat) : Wire.le v (k + 1) = Wire.le v k ++ [(v >>> (8 * k)).setWidth 8] := by
  unfold Wire.le; rw [List.range_succ, List.map_append]; rfl
/-- A slice of N bytes that the call owns. -/
def OwnN (N : Nat) (w : World) (base g cap : Nat) (l : List (BitVec 8)) : Prop := w.ownsRow base 5 1 (.slice (some ⟨g, 0, none⟩) N cap) N (by8 l)
theorem OwnN.len {N : Nat} {w : World} {base g cap : Nat} {l : List (BitVec 8)} (h : OwnN N w base g cap l) : l.length = N := by have := h.1; rwa [by8_length, Nat.mul_one] at this
theorem OwnN.below {N : Nat} {w w' : World} {base g cap : Nat} {l : List (BitVec 8)} (h : OwnN N w base g cap l) (hb : Below w.heap.size w w') : OwnN N w' base g cap l := own_below h hb
theorem OwnN.lt {N : Nat} {w : World} {base g cap : Nat} {l : List (BitVec 8)} (h : OwnN N w base g cap l) : base ≤ g ∧ g < w.heap.size := World.ownsRow.lt h g rfl
theorem OwnN.bytes {N : Nat} {w : World} {base g cap : Nat} {l : List (BitVec 8)} (h : OwnN N w base g cap l) : BytesV w (.slice (some ⟨g, 0, none⟩) N cap) l := by
  have hl := h.len
  unfold OwnN at h
  subst hl
  exact BytesV.of_own h
/-- 'b[k] = y'. -/
theorem OwnN.set {N : Nat} {w : World} {base g cap : Nat} {l : List (BitVec 8)} (h : OwnN N w base g cap l) (k : Nat) (y : BitVec 8) : OwnN N (w.setCell ⟨g, k, none⟩ (.int .u8 (uv y))) base g cap (l.set k y) := by
  unfold OwnN; rw [← by8_setL]; exact (World.ownsRow.stored h k (.int .u8 (uv y))).1
set_option maxHeartbeats 1600000 in
theorem rput23 (N g cap base : Nat) (l : List (BitVec 8)) (a n : Nat) (v : BitVec 64) (w : World) (ho : OwnN N w base g cap l) (hN : N ≤ 4096) (h : a + n ≤ N) (h8 : n ≤ 8) :
    Calls Tryd.prog 80 #[.slice (some ⟨g, 0, none⟩) N cap, .int .i64 a, .int .i64 n, .int .u64 (uv v)] w fun e w' => e = .returned (.tuple #[]) ∧ OwnN N w' base g cap (Lay.lay l a (Wire.le v n)) ∧ Chg (fun b => b = g) w w' := by
  have O := Lib.hid ho; have HL := Lib.hid ho.len
  clear ho
  go_enter Tryd.func80, Tryd.ntmps80
  go_wp2
  go_loopw [8] (fun i wr => ∃ k : Nat, k ≤ n ∧ i = .int .i64 k ∧ OwnN N wr base g cap (Lay.lay l a (Wire.le v k)) ∧ Chg (fun b => b = g) w wr) (fun i _ => n - (intOf i).toNat)
  case atStart => exact ⟨0, by omega, rfl, by have := O.out; rw [show Wire.le v 0 = [] from rfl, Lay.lay_nil]; exact this, Chg.refl _ _⟩
  case round =>
    obtain ⟨k, hk, rfl, ho, hc⟩ := hrel
    have OW := Lib.hid ho; have C := Lib.hid hc; clear ho hc
    by_cases hlt : k < n
    · obtain ⟨y, hy⟩ : ∃ y, (Lay.lay l a (Wire.le v k))[a + k]? = some y := ⟨_, List.getElem?_eq_getElem (by rw [OW.out.len]; omega)⟩
      have gx : wr.cell? ⟨g, a + k, none⟩ = some (.int .u8 (uv y)) := by
        rw [World.ownsRow.cellAt OW.out (a + k) (by omega), by8_get, hy]; rfl
      have fx := World.ownsRow.frozenAt OW.out (a + k)
      have hs : (Lay.lay l a (Wire.le v k)).set (a + k) ((v >>> (8 * k)).setWidth 8) = Lay.lay l a (Wire.le v (k + 1)) := by
        rw [le_more23, ← Lay.lay_snoc _ (by rw [Wire.le_len, HL.out]; omega), Wire.le_len]
      have HS := Lib.hid hs
      have hk8 : 8 * (k : Int) ≤ 56 := by omega
      clear hy hs
      go_wp2
      go_roundw
      case rel => exact ⟨k + 1, by omega, by go_num, by rw [← HS.out, OwnN, ← by8_setL]; exact (World.ownsRow.stored OW.out (a + k) _).1, C.out.trans (Chg.setCell (B := fun b => b = g) (p := ⟨g, a + k, none⟩) _ rfl _)⟩
      case measure => simp [intOf]; omega
    · obtain rfl : k = n := by omega
      go_wp2
      go_end0
      exact ⟨rfl, OW.out, C.out⟩
theorem get_more23 (l : List (BitVec 8)) (a n q : Nat) (x : BitVec 8) (hq : q < n) (h : l[a + q]? = some x) : Wire.get ((cut l a n).drop q) = Wire.get ((cut l a n).drop (q + 1)) <<< 8 ||| x.setWidth 64 := by
  refine Wire.get_drop _ q x ?_
  unfold cut
  rw [List.getElem?_take_of_lt hq, List.getElem?_drop, h]
set_option maxRecDepth 20000 in
theorem rget23 (bv : Value) (l : List (BitVec 8)) (a n : Nat) (x : BitVec 64) (w : World) (hv : BytesV w bv l) (hl : l.length ≤ 5000) (ha : a + n ≤ l.length) (h1 : 1 ≤ n) (h8 : n ≤ 8) (hx : num l a n = x) :
    Calls Tryd.prog 106 #[bv, .int .i64 a, .int .i64 n] w fun e w' => e = .returned (.int .u64 (uv x)) ∧ w = w' := by
  unfold num at hx
  obtain ⟨a', c', rfl, -, e1, e2, hrow⟩ := hv
  have hm : a + n ≤ 9223372036854775807 := by omega
  have hm2 : (l.length : Int) ≤ 9223372036854775807 := by omega
  have ROW := Lib.hid hrow; have HX := Lib.hid hx; have HA := Lib.hid ha
  clear hrow hx ha e1 e2
  go_enter Tryd.func106, Tryd.ntmps106
  go_wp2
  go_loop [7, 8] (fun s i => ∃ j : Nat, j ≤ n ∧ i = .int .i64 ((j : Int) - 1) ∧ s = .int .u64 (uv (Wire.get ((cut l a n).drop j)))) (fun _ i => (intOf i + 1).toNat)
  case atStart => exact ⟨n, by omega, rfl, by rw [List.drop_of_length_le (by rw [cut_len HA.out]; omega)]; rfl⟩
  case round =>
    obtain ⟨j, hj, rfl, rfl⟩ := hrel
    cases j with
    | zero =>
      have e : ((0 : Nat) : Int) - 1 = -1 := rfl
      rw [e, List.drop_zero, HX.out]
      go_wp2
      go_ret
      exact ⟨rfl, rfl⟩
    | succ q =>
      have e : ((q + 1 : Nat) : Int) - 1 = (q : Int) := by omega
      rw [e]
      clear e
      have hl := HA.out
      have hql : a + q < l.length := by omega
      clear hl
      obtain ⟨y, hy⟩ : ∃ y, l[a + q]? = some y := ⟨l[a + q], List.getElem?_eq_getElem hql⟩
      obtain ⟨b, o', rfl, hcell⟩ := ROW.out.at (i := a + q) (v := .int .u8 (uv y)) (by rw [by8_get, hy]; rfl)
      have HS := Lib.hid (get_more23 l a n q y (by omega) hy)
      have HM := Lib.hid (Wire.mul_add (Wire.get ((cut l a n).drop (q + 1))) y)
      clear hy
      go_wp2
      go_round
      case rel => exact ⟨q, by omega, by go_num, by rw [HS.out, ← HM.out]⟩
      case measure => simp [intOf]
def chkE (l : List (BitVec 8)) (n : Nat) : Int := if l.length < n then 4 else if n < l.length then 5 else 0
set_option maxRecDepth 20000 in
theorem check23 (v : Value) (l : List (BitVec 8)) (n : Nat) (m : Int) (e : Int) (w : World) (hm : m = n) (hv : BytesV w v l) (he : chkE l n = e) :
    Calls Tryd.prog 105 #[v, .int .i64 m] w fun r w' => r = .returned (.int .i64 e) ∧ w = w' := by
  subst hm
  subst he
  unfold chkE
  obtain ⟨a, c, rfl, h0, h1, h2, h3⟩ := hv
  have hm : l.length ≤ 9223372036854775807 := by omega
  clear h0 h1 h2 h3
  by_cases p1 : l.length < n
  · rw [if_pos p1]
    have d1 : decide ((l.length : Int) < (n : Int)) = true := decide_eq_true (by omega)
    have d3 : decide (l.length < n) = true := decide_eq_true (by omega); clear p1
    go_enter Tryd.func105, Tryd.ntmps105
    go_wp2
    go_ret
    exact ⟨rfl, rfl⟩
  · rw [if_neg p1]
    by_cases p2 : n < l.length
    · rw [if_pos p2]
      have d1 : decide (l.length < n) = false := decide_eq_false (by omega); have d2 : decide (n < l.length) = true := decide_eq_true (by omega); clear p1 p2
      go_enter Tryd.func105, Tryd.ntmps105
      go_wp2
      go_ret
      exact ⟨rfl, rfl⟩
    · rw [if_neg p2]
      have d1 : decide (l.length < n) = false := decide_eq_false (by omega); have d2 : decide (n < l.length) = false := decide_eq_false (by omega); clear p1 p2
      go_enter Tryd.func105, Tryd.ntmps105
      go_wp2
      go_ret
      exact ⟨rfl, rfl⟩
theorem rZeros_at (v : Value) (l : List (BitVec 8)) (b : Bool) (w : World) (hv : BytesV w v l) (hb : allZ l = b) :
    Calls Tryd.prog 107 #[v] w fun e w' => e = .returned (.bool b) ∧ w = w' := by
  subst hb
  obtain ⟨a, c, rfl, _, _, hc, hr⟩ := hv
  have hm : l.length ≤ 9223372036854775807 := by omega
  have R := Lib.hid hr; clear hr
  go_enter Tryd.func107, Tryd.ntmps107
  go_wp2
  go_loopw [3] (fun i wr => ∃ k : Nat, k ≤ l.length ∧ i = .int .i64 k ∧ Hid (allZ (l.take k) = true) ∧ wr = w) (fun i _ => l.length - (intOf i).toNat)
  case atStart => exact ⟨0, by omega, rfl, rfl, rfl⟩
  case round =>
    obtain ⟨k, hk, rfl, hz, rfl⟩ := hrel
    by_cases hlt : k < l.length
    · obtain ⟨x, hx⟩ : ∃ x, l[k]? = some x := ⟨l[k], List.getElem?_eq_getElem hlt⟩
      have hb : (by8 l)[k]? = some (.int .u8 (uv x)) := by rw [by8_get, hx]; rfl
      obtain ⟨b, o, rfl, c0⟩ := R.out.at hb
      have ht : l.take (k + 1) = l.take k ++ [x] := by
        obtain ⟨h1, rfl⟩ := List.getElem?_eq_some_iff.1 hx
        exact List.take_succ_eq_append_getElem h1
      have HT := Lib.hid ht; have HX := Lib.hid hx; clear hb ht hx
      by_cases h0 : x = 0#8
      · subst h0
        go_wp2
        go_roundw
        case rel => exact ⟨k + 1, by omega, by go_num, Lib.hid (by have := hz.out; unfold allZ at this ⊢; rw [HT.out, List.all_append, this]; decide), trivial⟩
        case measure => simp [intOf]; omega
      · have hq : (uv x != 0) = true := by
          have := uv_pos x h0
          simp; omega
        have hn : allZ l = false := by
          unfold allZ
          rw [List.all_eq_false]
          exact ⟨x, List.mem_of_getElem? HX.out, by simpa using h0⟩
        have HN := Lib.hid hn; clear hn h0
        go_wp2
        go_ret
        exact ⟨by rw [HN.out]; rfl, rfl⟩
    · obtain rfl : k = l.length := by omega
      have hn := hz.out
      rw [List.take_length] at hn
      have HN := Lib.hid hn; clear hn
      go_wp2
      go_ret
      exact ⟨by rw [HN.out]; rfl, rfl⟩
theorem cut_all (l : List (BitVec 8)) (a : Nat) (n : Nat) (h : a + n = l.length) : l.drop a = cut l a n := by
  unfold cut; rw [List.take_of_length_le (by rw [List.length_drop]; omega)]
end Go.Proofs.YthnnopjakpjoeaaDoor
