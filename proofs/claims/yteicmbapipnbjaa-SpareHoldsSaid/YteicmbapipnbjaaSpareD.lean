/- Descriptions of pages: the reference's put and get. -/
import Derived.Test.YteicmbapipnbjaaSpareC
namespace Go.Proofs.Yteicmbapipnbjaa
open Go.RowKit
set_option linter.unusedVariables false
set_option linter.unusedSimpArgs false
theorem by8_set (m : List (BitVec 8)) (k : Nat) (x : BitVec 8) : by8 (m.set k x) = (by8 m).set k (.int .u8 (uv x)) := by simp [by8, List.map_set]
namespace Sp
/-- l, with m laid over it at p. -/
def lay (l : List (BitVec 8)) (p : Nat) (m : List (BitVec 8)) : List (BitVec 8) := l.take p ++ m ++ l.drop (p + m.length)
theorem lay_len (l : List (BitVec 8)) (p : Nat) (m : List (BitVec 8)) (h : p + m.length ≤ l.length) : (lay l p m).length = l.length := by simp [lay]; omega
theorem lay_nil (l : List (BitVec 8)) (p : Nat) : lay l p [] = l := by simp [lay]
theorem le_step (v : BitVec 64) (k : Nat) : Wire.le v (k + 1) = Wire.le v k ++ [(v >>> (8 * k)).setWidth 8] := by
  simp [Wire.le, List.range_succ]
theorem lay_step (l : List (BitVec 8)) (p : Nat) (v : BitVec 64) (k : Nat) (h : p + k < l.length) : (lay l p (Wire.le v k)).set (p + k) ((v >>> (8 * k)).setWidth 8) = lay l p (Wire.le v (k + 1)) := by
  have e : l.drop (p + k) = l[p + k] :: l.drop (p + k + 1) := List.drop_eq_getElem_cons h
  unfold lay
  rw [Wire.le_len, Wire.le_len, le_step, e, List.set_append_right _ _ (by simp [Wire.le_len]; omega)]
  have e2 : p + k - (l.take p ++ Wire.le v k).length = 0 := by simp [Wire.le_len]; omega
  rw [e2]
  simp [List.append_assoc, Nat.add_assoc]
theorem get_cons (x : BitVec 8) (r : List (BitVec 8)) : Wire.get (x :: r) = Wire.get r <<< 8 ||| x.setWidth 64 := by
  apply BitVec.eq_of_getLsbD_eq
  intro i hi
  rw [Wire.get_bit _ _ hi, BitVec.getLsbD_or, BitVec.getLsbD_shiftLeft, BitVec.getLsbD_setWidth]
  by_cases h : i < 8
  · have e1 : i / 8 = 0 := by omega
    have e2 : i % 8 = i := by omega
    simp [h, hi, e1, e2]
    intro h2; omega
  · have e1 : i / 8 = (i - 8) / 8 + 1 := by omega
    have e2 : i % 8 = (i - 8) % 8 := by omega
    have e3 : x.getLsbD i = false := BitVec.getLsbD_of_ge _ _ (by omega)
    rw [Wire.get_bit _ _ (by omega : i - 8 < 64), e1, e2]
    have e4 : decide (i < 8 * (x :: r).length) = decide (i - 8 < 8 * r.length) := by simp; omega
    rw [e4]
    simp [h, hi, e3, List.getD_eq_getElem?_getD]
theorem get_drop (m : List (BitVec 8)) (q : Nat) (x : BitVec 8) (h : m[q]? = some x) : Wire.get (m.drop q) = Wire.get (m.drop (q + 1)) <<< 8 ||| x.setWidth 64 := by
  obtain ⟨hq, rfl⟩ := List.getElem?_eq_some_iff.1 h
  rw [List.drop_eq_getElem_cons hq, get_cons]
end Sp
set_option maxHeartbeats 800000 in
theorem put5_any (u : Value) (base : Nat) (l : List (BitVec 8)) (p n : Nat) (v : BitVec 64) (w : World) (hu : w.ownsRow base 5 1 u l.length (by8 l)) (hn : n ≤ 8) (hp : p + n ≤ l.length) (hs : l.length ≤ 1000000) :
    Calls Try.prog 34 #[u, .int .i64 p, .int .i64 n, .int .u64 (uv v)] w fun e w' => e = .returned (.tuple #[]) ∧ w'.ownsRow base 5 1 u l.length (by8 (Sp.lay l p (Wire.le v n))) ∧ w.grownBy w' u.ownBlock := by
  by_cases h0 : n = 0
  · subst h0
    have U := Lib.hid hu; clear hu
    go_enter Try.func34, Try.ntmps34
    go_wp2
    refine wp_loop_rounds 1 ?_
    rw [rounds_succ]
    go_wp2
    go_end0
    exact ⟨rfl, by have : Sp.lay l p (Wire.le v 0) = l := Sp.lay_nil l p
                   rw [this]; exact U.out, World.grownBy.refl _ _⟩
  · obtain ⟨a, c, rfl, _, _, hc, _⟩ := BytesV.of_own hu
    obtain ⟨g, rfl⟩ : ∃ g, a = some ⟨g, 0, none⟩ := by
      obtain ⟨e1, e2⟩ := hu
      rcases e2 with ⟨e3, e4⟩ | ⟨g, cap, cur, hv, _⟩
      · omega
      · simp at hv; exact ⟨g, hv.1⟩
    have U := Lib.hid hu; clear hu
    go_enter Try.func34, Try.ntmps34
    go_wp2
    go_loopw [8] (fun i wr => ∃ k : Nat, k ≤ n ∧ i = .int .i64 k ∧ wr.ownsRow base 5 1 (.slice (some ⟨g, 0, none⟩) l.length c) l.length (by8 (Sp.lay l p (Wire.le v k))) ∧ w.grownBy wr (some g)) (fun i _ => n - (intOf i).toNat)
    case atStart => exact ⟨0, by omega, rfl, by have : Sp.lay l p (Wire.le v 0) = l := Sp.lay_nil l p
                                                rw [this]; exact U.out, World.grownBy.refl _ _⟩
    case round =>
      obtain ⟨k, hk, rfl, hown, hgr⟩ := hrel
      have HO := Lib.hid hown; clear hown
      have HG := Lib.hid hgr; clear hgr
      by_cases hlt : k < n
      · have HX := Lib.hid (Sp.lay_step l p v k (by omega))
        have hll := Sp.lay_len l p (Wire.le v k) (by rw [Wire.le_len]; omega)
        obtain ⟨vx, gx⟩ : ∃ vx, wr.cell? ⟨g, p + k, none⟩ = some vx := by
          have := HO.out.cellAt (p + k) (by omega)
          rw [this]
          exact ⟨_, List.getElem?_eq_getElem (by rw [by8_length, hll]; omega)⟩
        have fx := HO.out.frozenAt (p + k)
        have hk8 : 8 * (k : Int) ≤ 56 := by omega
        clear hll
        go_wp2
        go_roundw
        case rel => exact ⟨k + 1, by omega, by go_num, by rw [← HX.out, by8_set]; exact (HO.out.stored (p + k) _).1, grown_tr HG.out (HO.out.stored (p + k) _).2⟩
        case measure => simp [intOf]; omega
      · obtain rfl : k = n := by omega
        go_wp2
        go_end0
        exact ⟨rfl, HO.out, HG.out⟩
set_option maxHeartbeats 800000 in
theorem get5_any (u : Value) (l : List (BitVec 8)) (p n : Nat) (x : BitVec 64) (w : World) (hu : BytesV w u l) (hp : p + n ≤ l.length) (hx : Wire.get ((l.drop p).take n) = x) :
    Calls Try.prog 36 #[u, .int .i64 p, .int .i64 n] w fun e w' => e = .returned (.int .u64 (uv x)) ∧ w = w' := by
  obtain ⟨m, hm⟩ : ∃ m, (l.drop p).take n = m := ⟨_, rfl⟩
  rw [hm] at hx
  have hml : m.length = n := by rw [← hm]; simp; omega
  have hget : ∀ q, q < n → l[p + q]? = m[q]? := by
    intro q hq; rw [← hm, List.getElem?_take_of_lt hq, List.getElem?_drop]
  obtain ⟨a, c, rfl, _, hc, hmx, hrow⟩ := hu
  have ROW := Lib.hid hrow; have HX := Lib.hid hx; have HG := Lib.hid hget
  clear hrow hx hget hm
  go_enter Try.func36, Try.ntmps36
  go_wp2
  go_loop [7, 8] (fun s i => ∃ j : Nat, j ≤ n ∧ i = .int .i64 ((j : Int) - 1) ∧ s = .int .u64 (uv (Wire.get (m.drop j)))) (fun _ i => (intOf i + 1).toNat)
  case atStart => exact ⟨n, by omega, rfl, by rw [List.drop_of_length_le (by omega)]; rfl⟩
  case round =>
    obtain ⟨j, hj, rfl, rfl⟩ := hrel
    cases j with
    | zero =>
      have e : ((0 : Nat) : Int) - 1 = -1 := rfl
      rw [e]
      go_wp2
      go_ret
      exact ⟨by rw [HX.out]; rfl, rfl⟩
    | succ q =>
      have e : ((q + 1 : Nat) : Int) - 1 = (q : Int) := by omega
      rw [e]
      clear e
      obtain ⟨y, hy⟩ : ∃ y, m[q]? = some y := ⟨m[q], List.getElem?_eq_getElem (by omega)⟩
      obtain ⟨b, o, rfl, hcell⟩ := ROW.out.at (i := p + q) (v := .int .u8 (uv y)) (by rw [by8_get, HG.out q (by omega), hy]; rfl)
      have HS := Lib.hid (Sp.get_drop m q y hy)
      clear hy
      go_wp2
      go_round
      case rel => exact ⟨q, by omega, by go_num, by rw [HS.out]⟩
      case measure => simp [intOf]
end Go.Proofs.Yteicmbapipnbjaa
