/- Discovery: numbers in bytes: the program and the reference. Printed by gendscc.py. -/
import Derived.Test.YtjcgdenkmmgmfaaGreatDoorDscB
import Derived.Test.YtjcgdenkmmgmfaaGreatDoorByte1
import Derived.Test.YtjcgdenkmmgmfaaGreatDoorChg
import Derived.Test.YtjcgdenkmmgmfaaGreatDoorWireMath3
namespace Go.Proofs.YtjcgdenkmmgmfaaGreatDoor
open Go.RowKit Dsc
set_option linter.unusedVariables false
set_option linter.unusedSimpArgs false
theorem le_more (v : BitVec 64) (k : Nat) : Wire.le v (k + 1) = Wire.le v k ++ [(v >>> (8 * k)).setWidth 8] := by unfold Wire.le; rw [List.range_succ, List.map_append]; rfl
theorem number_at (v : BitVec 64) (n : Nat) (w : World) (hn : n ≤ 8) :
    Calls Tryz.prog 38 #[.int .u64 (uv v), .int .i64 n] w fun e w' => ∃ u, e = .returned u ∧ w'.ownsRow w.heap.size 5 1 u n (by8 (Wire.le v n)) ∧ Below w.heap.size w w' := by
  go_enter Tryz.func38, Tryz.ntmps38
  go_wp2
  go_loopw [4, 5, 7] (fun u _ i wr => ∃ k : Nat, k ≤ n ∧ i = .int .i64 k ∧ wr.ownsRow w.heap.size 5 1 u k (by8 (Wire.le v k)) ∧ Below w.heap.size w wr) (fun _ _ i _ => n - (intOf i).toNat)
  case atStart => exact ⟨0, by omega, rfl, World.ownsRow_nil _ _ _ _, Below.refl _ _⟩
  case round =>
    obtain ⟨k, hk, rfl, hown, hb⟩ := hrel
    have O := Lib.hid hown; have B := Lib.hid hb
    clear hown hb
    by_cases hlt : k < n
    · have hk8 : 8 * (k : Int) ≤ 56 := by omega
      have LM := Lib.hid (le_more v k)
      go_wp2_with (at_builtin; refine app_one rfl (.tmp 10) (.tmp 16) rfl _ w.heap.size k (Wire.le v k) rfl O.out B.out.size ((v >>> (8 * k)).setWidth 8) rfl (by omega) ?_; intro v3 w3 ho hb; have O3 := Lib.hid ho; have B3 := Lib.hid (B.out.trans hb); clear ho hb)
      go_roundw
      case rel => exact ⟨k + 1, by omega, by go_num, by rw [LM.out]; exact O3.out, B3.out⟩
      case measure => simp [intOf]; omega
    · obtain rfl : k = n := by omega
      go_wp2
      go_ret
      exact ⟨_, rfl, O.out, B.out⟩
theorem value_at (u : Value) (l : List (BitVec 8)) (v : BitVec 64) (w : World) (hv : BytesV w u l) (h8 : l.length ≤ 8) (he : Wire.get l = v) :
    Calls Tryz.prog 40 #[u] w fun e w' => e = .returned (.int .u64 (uv v)) ∧ w = w' := by
  subst he
  obtain ⟨a, c, rfl, hn, hc, hm, hrow⟩ := hv
  have HROW := Lib.hid hrow; clear hrow
  go_enter Tryz.func40, Tryz.ntmps40
  go_wp2
  go_loop [2, 3, 4, 7] (fun s _ _ i => ∃ k : Nat, k ≤ l.length ∧ i = .int .i64 k ∧ s = .int .u64 (uv (Wire.acc l k))) (fun _ _ _ i => l.length - (intOf i).toNat)
  case atStart => exact ⟨0, by omega, rfl, rfl⟩
  case round =>
    obtain ⟨k, hk, rfl, rfl⟩ := hrel
    by_cases hlt : k < l.length
    · obtain ⟨x, hx⟩ : ∃ x, l[k]? = some x := ⟨l[k], List.getElem?_eq_getElem hlt⟩
      obtain ⟨b, o, rfl, hcell⟩ := HROW.out.at (i := k) (v := .int .u8 (uv x)) (by rw [by8_get, hx]; rfl)
      have HS := Lib.hid (Wire.acc_step l k x hx)
      have hk8 : 8 * (k : Int) ≤ 56 := by omega
      clear hx
      go_wp2
      go_round
      case rel => exact ⟨k + 1, by omega, by go_num, by rw [HS.out]⟩
      case measure => simp [intOf]; omega
    · obtain rfl : k = l.length := by omega
      go_wp2
      go_ret
      exact ⟨rfl, rfl⟩
theorem choice_at (b : Bool) (x : BitVec 8) (w : World) (h : ch b = x) : Calls Tryz.prog 58 #[.bool b] w fun e w' => e = .returned (.int .u8 (uv x)) ∧ w = w' := by
  subst h
  cases b
  · go_enter Tryz.func58, Tryz.ntmps58
    go_wp2
    go_ret
    exact ⟨rfl, rfl⟩
  · go_enter Tryz.func58, Tryz.ntmps58
    go_wp2
    go_ret
    exact ⟨rfl, rfl⟩
theorem yes_at (b : Bool) (x : BitVec 8) (w : World) (h : ch b = x) : Calls Tryz.prog 69 #[.bool b] w fun e w' => e = .returned (.int .u8 (uv x)) ∧ w = w' := by
  subst h
  cases b
  · go_enter Tryz.func69, Tryz.ntmps69
    go_wp2
    go_ret
    exact ⟨rfl, rfl⟩
  · go_enter Tryz.func69, Tryz.ntmps69
    go_wp2
    go_ret
    exact ⟨rfl, rfl⟩
end Go.Proofs.YtjcgdenkmmgmfaaGreatDoor
