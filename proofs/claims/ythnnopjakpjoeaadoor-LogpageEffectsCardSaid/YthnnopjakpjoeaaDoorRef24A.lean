/- The reference of layer 24: put, padded, name. -/
import Derived.Test.YthnnopjakpjoeaaDoorCopyIn
import Derived.Test.YthnnopjakpjoeaaDoorWireB
import Derived.Test.YthnnopjakpjoeaaDoorPadA
import Derived.Test.YthnnopjakpjoeaaDoorRef01
import Derived.Deep.DeepCutAuto
namespace Go.Proofs.YthnnopjakpjoeaaDoor
open Go.RowKit
set_option linter.unusedVariables false
set_option linter.unusedSimpArgs false
theorem Chg.fresh {B : Nat → Prop} {w w1 w2 : World} (h : Chg B w1 w2) (hb : Below w.heap.size w w1) (hq : ∀ k, B k → w.heap.size ≤ k) : Below w.heap.size w w2 :=
  hb.trans (h.below hq hb.size)
theorem by8_setL (l : List (BitVec 8)) (k : Nat) (y : BitVec 8) : (by8 l).set k (.int .u8 (uv y)) = by8 (l.set k y) := by
  unfold by8; rw [List.map_set]
theorem le_more (v : BitVec 64) (k : Nat) : Wire.le v (k + 1) = Wire.le v k ++ [(v >>> (8 * k)).setWidth 8] := by
  unfold Wire.le; rw [List.range_succ, List.map_append]; rfl
theorem run_str_at (l : List (BitVec 8)) (k : Nat) (y : BitVec 8) (h : l[k]? = some y) (w : World) : (Instr.index 9 (.string (strOf l)) (.int .i64 k)).run Tryd.prog w = .ok (.int .u8 (uv y)) w := by
  obtain ⟨hk, rfl⟩ := List.getElem?_eq_some_iff.1 h
  have hs : (strOf l).size = l.length := str_size l
  rw [run_index_string (P := Tryd.prog) w 9 (strOf l) .i64 k Tryd.underlying9, dif_pos ⟨by omega, by rw [hs]; omega⟩]
  have e : ((strOf l)[(k : Int).toNat]'(by rw [hs]; simpa using hk)).toNat = (l[k]).toNat := by
    simp [strOf, ByteArray.getElem_eq_getElem_data]
  rw [e]; rfl
/-- A slice of 4096 bytes that the call owns. -/
def Own4 (w : World) (base g cap : Nat) (l : List (BitVec 8)) : Prop := w.ownsRow base 5 1 (.slice (some ⟨g, 0, none⟩) 4096 cap) 4096 (by8 l)
theorem Own4.len {w : World} {base g cap : Nat} {l : List (BitVec 8)} (h : Own4 w base g cap l) : l.length = 4096 := by have := h.1; rwa [by8_length, Nat.mul_one] at this
theorem Own4.below {w w' : World} {base g cap : Nat} {l : List (BitVec 8)} (h : Own4 w base g cap l) (hb : Below w.heap.size w w') : Own4 w' base g cap l := own_below h hb
theorem Own4.lt {w : World} {base g cap : Nat} {l : List (BitVec 8)} (h : Own4 w base g cap l) : base ≤ g ∧ g < w.heap.size := World.ownsRow.lt h g rfl
set_option maxHeartbeats 1600000 in
theorem rput_any (g cap base : Nat) (l : List (BitVec 8)) (a n : Nat) (v : BitVec 64) (w : World) (ho : Own4 w base g cap l) (h : a + n ≤ 4096) (h8 : n ≤ 8) :
    Calls Tryd.prog 69 #[.slice (some ⟨g, 0, none⟩) 4096 cap, .int .i64 a, .int .i64 n, .int .u64 (uv v)] w fun e w' => e = .returned (.tuple #[]) ∧ Own4 w' base g cap (Lay.lay l a (Wire.le v n)) ∧ Chg (fun b => b = g) w w' := by
  have O := Lib.hid ho; have HL := Lib.hid ho.len
  clear ho
  go_enter Tryd.func69, Tryd.ntmps69
  go_wp2
  go_loopw [8] (fun i wr => ∃ k : Nat, k ≤ n ∧ i = .int .i64 k ∧ Own4 wr base g cap (Lay.lay l a (Wire.le v k)) ∧ Chg (fun b => b = g) w wr) (fun i _ => n - (intOf i).toNat)
  case atStart => exact ⟨0, by omega, rfl, by have := O.out; rw [show Wire.le v 0 = [] from rfl, Lay.lay_nil]; exact this, Chg.refl _ _⟩
  case round =>
    obtain ⟨k, hk, rfl, ho, hc⟩ := hrel
    have OW := Lib.hid ho; have C := Lib.hid hc; clear ho hc
    by_cases hlt : k < n
    · obtain ⟨y, hy⟩ : ∃ y, (Lay.lay l a (Wire.le v k))[a + k]? = some y := ⟨_, List.getElem?_eq_getElem (by rw [OW.out.len]; omega)⟩
      have gx : wr.cell? ⟨g, a + k, none⟩ = some (.int .u8 (uv y)) := by
        rw [World.ownsRow.cellAt OW.out (a + k) (by omega), by8_get, hy]; rfl
      have fx := World.ownsRow.frozenAt OW.out (a + k)
      have hs : (Lay.lay l a (Wire.le v k)).set (a + k) ((v >>> (8 * k)).setWidth 8) = Lay.lay l a (Wire.le v (k + 1)) := by
        rw [le_more, ← Lay.lay_snoc _ (by rw [Wire.le_len, HL.out]; omega), Wire.le_len]
      have HS := Lib.hid hs
      have hk8 : 8 * (k : Int) ≤ 56 := by omega
      clear hy hs
      go_wp2
      go_roundw
      case rel => exact ⟨k + 1, by omega, by go_num, by rw [← HS.out, Own4, ← by8_setL]; exact (World.ownsRow.stored OW.out (a + k) _).1, C.out.trans (Chg.setCell (B := fun b => b = g) (p := ⟨g, a + k, none⟩) _ rfl _)⟩
      case measure => simp [intOf]; omega
    · obtain rfl : k = n := by omega
      go_wp2
      go_end0
      exact ⟨rfl, OW.out, C.out⟩
set_option maxHeartbeats 1600000 in
theorem rpadded_any (g cap base : Nat) (l : List (BitVec 8)) (a n : Nat) (s : List (BitVec 8)) (c : BitVec 8) (w : World) (ho : Own4 w base g cap l) (h : a + n ≤ 4096) (hs : s.length ≤ n) :
    Calls Tryd.prog 70 #[.slice (some ⟨g, 0, none⟩) 4096 cap, .int .i64 a, .int .i64 n, .string (strOf s), .int .u8 (uv c)] w fun e w' => e = .returned (.tuple #[]) ∧ Own4 w' base g cap (Lay.lay l a (s ++ List.replicate (n - s.length) c)) ∧ Chg (fun b => b = g) w w' := by
  have O := Lib.hid ho; have HL := Lib.hid ho.len
  obtain ⟨F, hF⟩ : ∃ F, s ++ List.replicate (n - s.length) c = F := ⟨_, rfl⟩
  have hFl : F.length = n := by rw [← hF, List.length_append, List.length_replicate]; omega
  have hFk : ∀ k, k < n → F[k]? = some (if h : k < s.length then s[k] else c) := by
    intro k hk
    rw [← hF]
    split
    · rename_i h; rw [List.getElem?_append_left h, List.getElem?_eq_getElem h]
    · rename_i h; rw [List.getElem?_append_right (by omega), List.getElem?_replicate, if_pos (by omega)]
  have hsz : (strOf s).size = s.length := str_size s
  have HF := Lib.hid hF; have HFL := Lib.hid hFl; have HFK := Lib.hid hFk
  clear ho hF hFl hFk
  rw [HF.out]
  go_enter Tryd.func70, Tryd.ntmps70
  go_wp2
  go_loopw [10] (fun i wr => ∃ k : Nat, k ≤ n ∧ i = .int .i64 k ∧ Own4 wr base g cap (Lay.lay l a (F.take k)) ∧ Chg (fun b => b = g) w wr) (fun i _ => n - (intOf i).toNat)
  case atStart => exact ⟨0, by omega, rfl, by have := O.out; rw [List.take_zero, Lay.lay_nil]; exact this, Chg.refl _ _⟩
  case round =>
    obtain ⟨k, hk, rfl, ho, hc⟩ := hrel
    have OW := Lib.hid ho; have C := Lib.hid hc; clear ho hc
    by_cases hlt : k < n
    · obtain ⟨L, hL⟩ : ∃ L, Lay.lay l a (F.take k) = L := ⟨_, rfl⟩
      rw [hL] at OW
      have hset : ∀ y, F[k]? = some y → L.set (a + k) y = Lay.lay l a (F.take (k + 1)) := by
        intro y hy
        obtain ⟨h1, h2⟩ := List.getElem?_eq_some_iff.1 hy
        have hl : (F.take k).length = k := by rw [List.length_take, HFL.out]; omega
        rw [List.take_succ_eq_append_getElem h1, h2, ← Lay.lay_snoc y (by rw [hl, HL.out]; omega), hl, hL]
      have HSET := Lib.hid hset
      obtain ⟨y, hy⟩ : ∃ y, L[a + k]? = some y := ⟨_, List.getElem?_eq_getElem (by rw [OW.out.len]; omega)⟩
      have gx : wr.cell? ⟨g, a + k, none⟩ = some (.int .u8 (uv y)) := by
        rw [World.ownsRow.cellAt OW.out (a + k) (by omega), by8_get, hy]; rfl
      have fx := World.ownsRow.frozenAt OW.out (a + k)
      clear hy hset
      by_cases hks : k < s.length
      · have d1 : decide (k < s.length) = true := decide_eq_true hks
        have hi := run_str_at s k s[k] (List.getElem?_eq_getElem hks)
        have HY := Lib.hid (HSET.out s[k] (by rw [HFK.out k hlt, dif_pos hks]))
        obtain ⟨z, hz⟩ : ∃ z, s[k] = z := ⟨_, rfl⟩
        rw [hz] at hi HY
        clear hz hks
        have O1 := Lib.hid ((World.ownsRow.stored OW.out (a + k) (.int .u8 (uv c))).1)
        have f1 := World.ownsRow.frozenAt O1.out (a + k)
        have g1 : (wr.setCell ⟨g, a + k, none⟩ (.int .u8 (uv c))).cell? ⟨g, a + k, none⟩ = some (.int .u8 (uv c)) := by
          rw [World.ownsRow.cellAt O1.out (a + k) (by omega), List.getElem?_set, if_pos rfl, if_pos (by rw [by8_length, OW.out.len]; omega)]
        go_wp2
        go_roundw
        case rel => exact ⟨k + 1, by omega, by go_num, by
          have := (World.ownsRow.stored O1.out (a + k) (.int .u8 (uv z))).1
          rw [List.set_set, by8_setL, HY.out] at this
          exact this, (C.out.trans (Chg.setCell (B := fun b => b = g) (p := ⟨g, a + k, none⟩) _ rfl _)).trans (Chg.setCell (B := fun b => b = g) (p := ⟨g, a + k, none⟩) _ rfl _)⟩
        case measure => simp [intOf]; omega
      · have d1 : decide (k < s.length) = false := decide_eq_false hks
        have HY := Lib.hid (HSET.out c (by rw [HFK.out k hlt, dif_neg hks]))
        clear hks
        go_wp2
        go_roundw
        case rel => exact ⟨k + 1, by omega, by go_num, by rw [← HY.out, Own4, ← by8_setL]; exact (World.ownsRow.stored OW.out (a + k) _).1, C.out.trans (Chg.setCell (B := fun b => b = g) (p := ⟨g, a + k, none⟩) _ rfl _)⟩
        case measure => simp [intOf]; omega
    · obtain rfl : k = n := by omega
      have ho := OW.out
      rw [List.take_of_length_le (by rw [HFL.out]; omega)] at ho
      have OO := Lib.hid ho; clear ho hlt
      go_wp2
      go_end0
      exact ⟨rfl, OO.out, C.out⟩
end Go.Proofs.YthnnopjakpjoeaaDoor
