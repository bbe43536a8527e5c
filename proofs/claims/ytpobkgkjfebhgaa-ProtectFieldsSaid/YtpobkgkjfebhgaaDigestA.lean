/- The walks of package digest. -/
import Derived.Test.YtpobkgkjfebhgaaRows
import Derived.Test.YtpobkgkjfebhgaaDigestMath
import Derived.Test.YtpobkgkjfebhgaaMem
namespace Go.Proofs.Ytpobkgkjfebhgaa
open Go.RowKit
set_option linter.unusedVariables false
set_option linter.unusedSimpArgs false

theorem left_any (s : BitVec 16) (w : World) :
    Calls Try.prog 41 #[.int .u16 (uv s)] w fun e w' => e = .returned (.int .u16 (uv (Dig.l8 s))) ∧ w = w' := by
  go_enter Try.func41, Try.ntmps41
  go_wp2
  go_loop [0, 3] (fun s' i => ∃ k : Nat, k ≤ 8 ∧ i = .int .i64 k ∧ s' = .int .u16 (uv (Dig.it Dig.sh16 k s))) (fun _ i => 8 - (intOf i).toNat)
  case atStart => exact ⟨0, by omega, rfl, rfl⟩
  case round =>
    obtain ⟨k, hk, rfl, rfl⟩ := hrel
    by_cases hlt : k < 8
    · go_wp2
      go_round
      case rel => exact ⟨k + 1, by omega, by go_num, rfl⟩
      case measure => simp [intOf]; omega
    · go_wp2
      go_ret
      obtain rfl : k = 8 := by omega
      exact ⟨rfl, rfl⟩

theorem step16_any (s : BitVec 16) (b : BitVec 8) (T : Nat) (w : World) (ht : ∀ i : BitVec 8, w.cell? ⟨T, nv i, none⟩ = some (.int .u16 (uv (Dig.l8 (i.setWidth 16 <<< 8))))) :
    Calls Try.prog 43 #[.int .u16 (uv s), .int .u8 (uv b), .pointer (some ⟨T, 0, none⟩)] w fun e w' => e = .returned (.int .u16 (uv (Dig.ps16 s b))) ∧ w = w' := by
  have h1 := uv_nonneg ((s >>> 8).setWidth 8 ^^^ b)
  have h2 := uv8_lt ((s >>> 8).setWidth 8 ^^^ b)
  have h3 := ht ((s >>> 8).setWidth 8 ^^^ b)
  clear ht
  go_enter Try.func43, Try.ntmps43
  go_wp2
  go_ret
  exact ⟨rfl, rfl⟩
end Go.Proofs.Ytpobkgkjfebhgaa
