/- The walks of package digest. -/
import Derived.Test.YteicmbapipnbjaaRows
import Derived.Test.YteicmbapipnbjaaDigestMath
import Derived.Test.YteicmbapipnbjaaMem
namespace Go.Proofs.Yteicmbapipnbjaa
open Go.RowKit
set_option linter.unusedVariables false
set_option linter.unusedSimpArgs false

theorem right_any (s : BitVec 32) (w : World) :
    Calls Try.prog 61 #[.int .u32 (uv s)] w fun e w' => e = .returned (.int .u32 (uv (Dig.r8 s))) ∧ w = w' := by
  go_enter Try.func61, Try.ntmps61
  go_wp2
  go_loop [0, 3] (fun s' i => ∃ k : Nat, k ≤ 8 ∧ i = .int .i64 k ∧ s' = .int .u32 (uv (Dig.it Dig.sh32 k s))) (fun _ i => 8 - (intOf i).toNat)
  case atStart => exact ⟨0, by omega, rfl, rfl⟩
  case round =>
    obtain ⟨k, hk, rfl, rfl⟩ := hrel
    by_cases hlt : k < 8
    · go_wp2
      go_round
      case rel => exact ⟨k + 1, by omega, by go_num, rfl⟩
      case measure => simp [intOf]; omega
    · go_wp2
      go_ret
      obtain rfl : k = 8 := by omega
      exact ⟨rfl, rfl⟩
theorem step32_any (s : BitVec 32) (b : BitVec 8) (T : Nat) (w : World) (ht : ∀ i : BitVec 8, w.cell? ⟨T, nv i, none⟩ = some (.int .u32 (uv (Dig.r8 (i.setWidth 32))))) :
    Calls Try.prog 63 #[.int .u32 (uv s), .int .u8 (uv b), .pointer (some ⟨T, 0, none⟩)] w fun e w' => e = .returned (.int .u32 (uv (Dig.ps32 s b))) ∧ w = w' := by
  have h1 := uv_nonneg (s.setWidth 8 ^^^ b)
  have h2 := uv8_lt (s.setWidth 8 ^^^ b)
  have h3 := ht (s.setWidth 8 ^^^ b)
  clear ht
  go_enter Try.func63, Try.ntmps63
  go_wp2
  go_ret
  exact ⟨rfl, rfl⟩
end Go.Proofs.Yteicmbapipnbjaa
