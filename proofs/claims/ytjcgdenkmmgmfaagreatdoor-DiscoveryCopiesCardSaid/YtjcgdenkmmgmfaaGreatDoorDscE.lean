/- Discovery: the bytes of a record: the reference. Printed by gendsce.py. -/
import Derived.Test.YtjcgdenkmmgmfaaGreatDoorDscD
import Derived.Deep.DeepCutAuto
namespace Go.Proofs.YtjcgdenkmmgmfaaGreatDoor
open Go.RowKit Dsc
set_option linter.unusedVariables false
set_option linter.unusedSimpArgs false
theorem by8_setL (l : List (BitVec 8)) (k : Nat) (y : BitVec 8) : (by8 l).set k (.int .u8 (uv y)) = by8 (l.set k y) := by
  unfold by8; rw [List.map_set]
/-- A slice of N bytes that the call owns. -/
def OwnN (N : Nat) (w : World) (base g cap : Nat) (l : List (BitVec 8)) : Prop := w.ownsRow base 5 1 (.slice (some ⟨g, 0, none⟩) N cap) N (by8 l)
theorem OwnN.len {N : Nat} {w : World} {base g cap : Nat} {l : List (BitVec 8)} (h : OwnN N w base g cap l) : l.length = N := by have := h.1; rwa [by8_length, Nat.mul_one] at this
theorem OwnN.below {N : Nat} {w w' : World} {base g cap : Nat} {l : List (BitVec 8)} (h : OwnN N w base g cap l) (hb : Below w.heap.size w w') : OwnN N w' base g cap l := own_below h hb
theorem OwnN.lt {N : Nat} {w : World} {base g cap : Nat} {l : List (BitVec 8)} (h : OwnN N w base g cap l) : base ≤ g ∧ g < w.heap.size := World.ownsRow.lt h g rfl
theorem OwnN.bytes {N : Nat} {w : World} {base g cap : Nat} {l : List (BitVec 8)} (h : OwnN N w base g cap l) : BytesV w (.slice (some ⟨g, 0, none⟩) N cap) l := by
  have hl := h.len
  unfold OwnN at h
  subst hl
  exact BytesV.of_own h
/-- 'b[k] = y'. -/
theorem OwnN.set {N : Nat} {w : World} {base g cap : Nat} {l : List (BitVec 8)} (h : OwnN N w base g cap l) (k : Nat) (y : BitVec 8) : OwnN N (w.setCell ⟨g, k, none⟩ (.int .u8 (uv y))) base g cap (l.set k y) := by
  unfold OwnN; rw [← by8_setL]; exact (World.ownsRow.stored h k (.int .u8 (uv y))).1
theorem OwnN.at {N : Nat} {w : World} {base g cap : Nat} {l : List (BitVec 8)} (h : OwnN N w base g cap l) (k : Nat) (hk : k < N) : ∃ y, w.cell? ⟨g, k, none⟩ = some (.int .u8 (uv y)) ∧ l[k]? = some y := by
  obtain ⟨y, hy⟩ : ∃ y, l[k]? = some y := ⟨_, List.getElem?_eq_getElem (by rw [h.len]; exact hk)⟩
  exact ⟨y, by rw [World.ownsRow.cellAt h k (by omega), by8_get, hy]; rfl, hy⟩
set_option maxHeartbeats 1600000 in
theorem little_at (N g cap base : Nat) (l : List (BitVec 8)) (a n : Nat) (v : BitVec 64) (w : World) (ho : OwnN N w base g cap l) (hN : N ≤ 4096) (h : a + n ≤ N) (h8 : n ≤ 8) :
    Calls Tryz.prog 55 #[.slice (some ⟨g, 0, none⟩) N cap, .int .i64 a, .int .i64 n, .int .u64 (uv v)] w fun e w' => e = .returned (.tuple #[]) ∧ OwnN N w' base g cap (Lay.lay l a (Wire.le v n)) ∧ Chg (fun b => b = g) w w' := by
  have O := Lib.hid ho; have HL := Lib.hid ho.len
  clear ho
  go_enter Tryz.func55, Tryz.ntmps55
  go_wp2
  go_loopw [3, 8] (fun s i wr => ∃ k : Nat, k ≤ n ∧ i = .int .i64 k ∧ s = .int .u64 (uv (v >>> (8 * k))) ∧ OwnN N wr base g cap (Lay.lay l a (Wire.le v k)) ∧ Chg (fun b => b = g) w wr) (fun _ i _ => n - (intOf i).toNat)
  case atStart => exact ⟨0, by omega, rfl, by simp, by have := O.out; rw [show Wire.le v 0 = [] from rfl, Lay.lay_nil]; exact this, Chg.refl _ _⟩
  case round =>
    obtain ⟨k, hk, rfl, rfl, ho, hc⟩ := hrel
    have OW := Lib.hid ho; have C := Lib.hid hc; clear ho hc
    by_cases hlt : k < n
    · obtain ⟨y, gx, hy⟩ := OW.out.at (a + k) (by omega)
      have fx := World.ownsRow.frozenAt OW.out (a + k)
      have hs : (Lay.lay l a (Wire.le v k)).set (a + k) ((v >>> (8 * k)).setWidth 8) = Lay.lay l a (Wire.le v (k + 1)) := by
        rw [le_more, ← Lay.lay_snoc _ (by rw [Wire.le_len, HL.out]; omega), Wire.le_len]
      have HS := Lib.hid hs
      have HQ := Lib.hid (Wire.quo_step v k)
      have HR := Wire.rem_byte v k
      obtain ⟨x, hx⟩ : ∃ x, v >>> (8 * k) = x := ⟨_, rfl⟩
      rw [hx] at HS HQ HR ⊢
      have um := uv_tmod x; have ud := uv_tdiv x
      have r1 := run_rem256 x; have r2 := run_quo256 x
      clear hy hs hx
      go_wp2
      go_roundw
      case rel => exact ⟨k + 1, by omega, by go_num, by rw [← HQ.out], by rw [← HS.out]; first | exact OW.out.set (a + k) _ | (have := OW.out.set (a + k) (x.setWidth 8); simpa using this) | (have := OW.out.set (a + k) ((x % 256#64).setWidth 8); rw [HR] at this; exact this), C.out.trans (Chg.setCell (B := fun b => b = g) (p := ⟨g, a + k, none⟩) _ rfl _)⟩
      case measure => simp [intOf]; omega
    · obtain rfl : k = n := by omega
      go_wp2
      go_end0
      exact ⟨rfl, OW.out, C.out⟩
theorem padS_get (s : List (BitVec 8)) (n : Nat) (c : BitVec 8) (k : Nat) (hs : s.length ≤ n) (hk : k < n) : (padS s n c)[k]? = some (if h : k < s.length then s[k] else c) := by
  unfold padS
  by_cases h : k < s.length
  · rw [List.getElem?_append_left h, dif_pos h, List.getElem?_eq_getElem h]
  · rw [List.getElem?_append_right (by omega), dif_neg h, List.getElem?_replicate, if_pos (by omega)]
theorem take_more {α : Type} (l : List α) (k : Nat) (x : α) (h : l[k]? = some x) : l.take (k + 1) = l.take k ++ [x] := by
  obtain ⟨h1, rfl⟩ := List.getElem?_eq_some_iff.1 h
  rw [List.take_succ_eq_append_getElem h1]
set_option maxHeartbeats 1600000 in
theorem put_at (N g cap base : Nat) (l : List (BitVec 8)) (a n : Nat) (s : List (BitVec 8)) (c : BitVec 8) (w : World) (ho : OwnN N w base g cap l) (hN : N ≤ 4096) (h : a + n ≤ N) (hs : s.length ≤ n) :
    Calls Tryz.prog 70 #[.slice (some ⟨g, 0, none⟩) N cap, .int .i64 a, .int .i64 n, .string (strOf s), .int .u8 (uv c)] w fun e w' => e = .returned (.tuple #[]) ∧ OwnN N w' base g cap (Lay.lay l a (padS s n c)) ∧ Chg (fun b => b = g) w w' := by
  have O := Lib.hid ho; have HL := Lib.hid ho.len
  have PL := Lib.hid (padS_len c hs)
  have PG := Lib.hid (fun k hk => padS_get s n c k hs hk)
  have AT := Lib.hid (fun k y h => run_strAt s k y h)
  have hsz := strOf_size s
  obtain ⟨st, hst⟩ : ∃ st, strOf s = st := ⟨_, rfl⟩
  rw [hst] at AT hsz ⊢
  obtain ⟨nl, hnl⟩ : ∃ nl, s.length = nl := ⟨_, rfl⟩
  have e0 : (st.size : Int) = (nl : Int) := by rw [hsz, hnl]
  rw [hnl] at hs
  have HNL := Lib.hid hnl
  clear ho hst hsz hnl
  obtain ⟨P, hP⟩ : ∃ P, padS s n c = P := ⟨_, rfl⟩
  rw [hP] at PL PG ⊢
  clear hP
  go_enter Tryz.func70, Tryz.ntmps70
  go_wp2
  go_loopw [10] (fun i wr => ∃ k : Nat, k ≤ n ∧ i = .int .i64 k ∧ OwnN N wr base g cap (Lay.lay l a (P.take k)) ∧ Chg (fun b => b = g) w wr) (fun i _ => n - (intOf i).toNat)
  case atStart => exact ⟨0, by omega, rfl, by have := O.out; rw [List.take_zero, Lay.lay_nil]; exact this, Chg.refl _ _⟩
  case round =>
    obtain ⟨k, hk, rfl, ho, hc⟩ := hrel
    have OW := Lib.hid ho; have C := Lib.hid hc; clear ho hc
    by_cases hlt : k < n
    · obtain ⟨y, gx, hy⟩ := OW.out.at (a + k) (by omega)
      have fx := World.ownsRow.frozenAt OW.out (a + k)
      have pg := PG.out k hlt
      have tl : (P.take k).length = k := by rw [List.length_take, PL.out]; omega
      have st1 : ∀ z, P[k]? = some z → (Lay.lay l a (P.take k)).set (a + k) z = Lay.lay l a (P.take (k + 1)) := fun z hz => by
        have := Lay.lay_snoc (l := l) (x := P.take k) (p := a) z (by rw [tl, HL.out]; omega)
        rw [tl] at this
        rw [take_more P k z hz, this]
      by_cases hin : k < nl
      · have hks : k < s.length := by rw [HNL.out]; exact hin
        rw [dif_pos hks] at pg
        have hi := AT.out k s[k] (List.getElem?_eq_getElem hks)
        obtain ⟨x, hx⟩ : ∃ x, s[k] = x := ⟨_, rfl⟩
        rw [hx] at pg hi
        have HS := Lib.hid (st1 x pg)
        clear st1 pg hy hx tl hks
        have F2 : ∀ w2, w2 = wr.setCell ⟨g, a + k, none⟩ (.int .u8 (uv c)) → w2.cell? ⟨g, a + k, none⟩ = some (.int .u8 (uv c)) := fun w2 e => by subst e; exact World.cell?_setCell_same' _ _ _ (by rw [gx]; rfl)
        go_wp2
        go_roundw
        case rel => exact ⟨k + 1, by omega, by go_num, by have := (OW.out.set (a + k) c).set (a + k) x; rw [List.set_set, HS.out] at this; exact this, (C.out.trans (Chg.setCell (B := fun b => b = g) (p := ⟨g, a + k, none⟩) _ rfl _)).trans (Chg.setCell (B := fun b => b = g) (p := ⟨g, a + k, none⟩) _ rfl _)⟩
        case measure => simp [intOf]; omega
      · rw [dif_neg (by rw [HNL.out]; exact hin)] at pg
        have HS := Lib.hid (st1 c pg)
        clear st1 pg hy tl
        go_wp2
        go_roundw
        case rel => exact ⟨k + 1, by omega, by go_num, by have := OW.out.set (a + k) c; rw [HS.out] at this; exact this, C.out.trans (Chg.setCell (B := fun b => b = g) (p := ⟨g, a + k, none⟩) _ rfl _)⟩
        case measure => simp [intOf]; omega
    · obtain rfl : k = n := by omega
      go_wp2
      go_end0
      exact ⟨rfl, by have := OW.out; rwa [List.take_of_length_le (by rw [PL.out]; exact Nat.le_refl _)] at this, C.out⟩
end Go.Proofs.YtjcgdenkmmgmfaaGreatDoor
