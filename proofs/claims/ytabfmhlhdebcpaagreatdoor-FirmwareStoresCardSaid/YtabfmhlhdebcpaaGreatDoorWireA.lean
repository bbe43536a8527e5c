/- The walks of package wire: Put and Get. -/
import Derived.Test.YtabfmhlhdebcpaaGreatDoorSlices
import Derived.Test.YtabfmhlhdebcpaaGreatDoorWireMath
namespace Go.Proofs.YtabfmhlhdebcpaaGreatDoor
open Go.RowKit
set_option linter.unusedVariables false
set_option linter.unusedSimpArgs false

theorem Put_arg (v : BitVec 64) (n : Int) (w : World) (h : n < 1 ∨ (1 ≤ n ∧ 8 < n)) :
    Calls Tryz.prog 59 #[.int .u64 (uv v), .int .i64 n] w fun e w' => e = .returned (.tuple #[.slice none 0 0, .int .i64 2]) ∧ w = w' := by
  rcases h with h | ⟨h1, h2⟩
  · go_enter Tryz.func59, Tryz.ntmps59
    go_wp2
    go_ret2
    exact ⟨rfl, rfl⟩
  · go_enter Tryz.func59, Tryz.ntmps59
    go_wp2
    go_ret2
    exact ⟨rfl, rfl⟩
theorem uv_pos {n : Nat} (x : BitVec n) (h : x ≠ 0#n) : 0 < uv x := by
  have h1 := uv_nonneg x
  have : uv x ≠ 0 := fun e => h (uv_inj (by rw [e]; simp [uv]))
  omega
theorem Put_range (v : BitVec 64) (n : Nat) (w : World) (h1 : 1 ≤ n) (h2 : n < 8) (h : v >>> (8 * n) ≠ 0#64) :
    Calls Tryz.prog 59 #[.int .u64 (uv v), .int .i64 n] w fun e w' => e = .returned (.tuple #[.slice none 0 0, .int .i64 3]) ∧ w = w' := by
  have hp := uv_pos _ h
  clear h
  go_enter Tryz.func59, Tryz.ntmps59
  go_wp2
  go_ret2
  exact ⟨rfl, rfl⟩

theorem Put_ok (v : BitVec 64) (n : Nat) (w : World) (h1 : 1 ≤ n) (h2 : n ≤ 8) (h : n < 8 → v >>> (8 * n) = 0#64) :
    Calls Tryz.prog 59 #[.int .u64 (uv v), .int .i64 n] w fun e w' => ∃ g, e = .returned (.tuple #[.slice (some ⟨g, 0, none⟩) n n, .int .i64 0]) ∧ w'.ownsRow w.heap.size 5 1 (.slice (some ⟨g, 0, none⟩) n n) n (by8 (Wire.le v n)) ∧ Below w.heap.size w w' := by
  have hz : n < 8 → uv (v >>> (8 * n)) = 0 := fun hn => by rw [h hn]; rfl
  clear h
  have HLE := Lib.hid (Wire.le_len v n)
  by_cases hn : n < 8
  all_goals
    have hz' := hz
    clear hz
    try (replace hz' := hz' hn)
    try (have HZ := hz'; clear hz')
    go_enter Tryz.func59, Tryz.ntmps59
    go_wp2_with (refine make_law bytesOk rfl _ _ rfl w.heap.size .i64 .i64 (n : Int) (n : Int) n rfl rfl rfl rfl (by omega) (by omega) (Nat.le_refl _) ?_; intro w1 hown hgrow; have HO := Lib.hid hown; clear hown; have HB := Lib.hid ((Below.refl w.heap.size w).grown hgrow (Nat.le_refl _) (by intro k hk; cases hk)); clear hgrow)
    go_loopw [29] (fun i wr => ∃ k : Nat, k ≤ n ∧ i = .int .i64 k ∧ wr.ownsRow w.heap.size 5 1 (.slice (some ⟨w.heap.size, 0, none⟩) n n) n (by8 (partB (Wire.le v n) k)) ∧ Below w.heap.size w wr) (fun i _ => n - (intOf i).toNat)
    case atStart =>
      refine ⟨0, by omega, rfl, ?_, HB.out⟩
      have := HO.out
      rw [by8_made] at this
      rw [partB_zero, HLE.out]; exact this
    case round =>
      obtain ⟨k, hk, rfl, hown, hb⟩ := hrel
      have HR := Lib.hid hown; clear hown
      have HB2 := Lib.hid hb; clear hb
      by_cases hlt : k < n
      · have HX := Lib.hid (partB_step _ _ _ (Wire.le_get v n k hlt))
        obtain ⟨vx, gx⟩ : ∃ vx, wr.cell? ⟨w.heap.size, k, none⟩ = some vx := by
          have := HR.out.cellAt k (by omega)
          rw [this]
          exact ⟨_, List.getElem?_eq_getElem (by rw [by8_length, partB_len _ k (by rw [HLE.out]; omega), HLE.out]; exact hlt)⟩
        have fx := HR.out.frozenAt k
        have hk8 : 8 * (k : Int) ≤ 56 := by omega
        go_wp2
        go_roundw
        case rel => exact ⟨k + 1, by omega, by go_num, by rw [← HX.out]; exact (HR.out.stored k _).1, HB2.out.setCell (p := ⟨w.heap.size, k, none⟩) (Nat.le_refl _) _⟩
        case measure => simp [intOf]; omega
      · obtain rfl : k = n := by omega
        go_wp2
        go_ret2
        exact ⟨_, rfl, by have := HR.out; rw [show partB (Wire.le v k) k = Wire.le v k by have h := partB_all (Wire.le v k); rw [Wire.le_len] at h; exact h] at this; exact this, HB2.out⟩
theorem Get_arg (u : Value) (l : List (BitVec 8)) (w : World) (hv : BytesV w u l) (h : l.length < 1 ∨ 8 < l.length) :
    Calls Tryz.prog 127 #[u] w fun e w' => e = .returned (.tuple #[.int .u64 0, .int .i64 2]) ∧ w = w' := by
  obtain ⟨a, c, rfl, _, _, _, _⟩ := hv
  rcases h with h | h
  · go_enter Tryz.func127, Tryz.ntmps127
    go_wp2
    go_ret2
    exact ⟨rfl, rfl⟩
  · go_enter Tryz.func127, Tryz.ntmps127
    go_wp2
    go_ret2
    exact ⟨rfl, rfl⟩
theorem Get_ok (u : Value) (l : List (BitVec 8)) (w : World) (hv : BytesV w u l) (h1 : 1 ≤ l.length) (h2 : l.length ≤ 8) :
    Calls Tryz.prog 127 #[u] w fun e w' => e = .returned (.tuple #[.int .u64 (uv (Wire.get l)), .int .i64 0]) ∧ w = w' := by
  obtain ⟨a, c, rfl, hn, hc, hm, hrow⟩ := hv
  have HROW := Lib.hid hrow; clear hrow
  go_enter Tryz.func127, Tryz.ntmps127
  go_wp2
  go_loop [2, 16] (fun s i => ∃ k : Nat, k ≤ l.length ∧ i = .int .i64 k ∧ s = .int .u64 (uv (Wire.acc l k))) (fun _ i => l.length - (intOf i).toNat)
  case atStart => exact ⟨0, by omega, rfl, rfl⟩
  case round =>
    obtain ⟨k, hk, rfl, rfl⟩ := hrel
    by_cases hlt : k < l.length
    · obtain ⟨x, hx⟩ : ∃ x, l[k]? = some x := ⟨l[k], List.getElem?_eq_getElem hlt⟩
      obtain ⟨b, o, rfl, hcell⟩ := HROW.out.at (i := k) (v := .int .u8 (uv x)) (by rw [by8_get, hx]; rfl)
      have HS := Lib.hid (Wire.acc_step l k x hx)
      have hk8 : 8 * (k : Int) ≤ 56 := by omega
      clear hx
      go_wp2
      go_round
      case rel => exact ⟨k + 1, by omega, by go_num, by rw [HS.out]⟩
      case measure => simp [intOf]; omega
    · obtain rfl : k = l.length := by omega
      go_wp2
      go_ret2
      exact ⟨rfl, rfl⟩
end Go.Proofs.YtabfmhlhdebcpaaGreatDoor
