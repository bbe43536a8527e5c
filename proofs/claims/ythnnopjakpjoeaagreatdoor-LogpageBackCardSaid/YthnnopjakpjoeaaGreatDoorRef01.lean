/- The walks of the reference's helpers: Own (a copy of bytes) and Same (equality of bytes). -/
import Derived.Test.YthnnopjakpjoeaaGreatDoorBase
namespace Go.Proofs.YthnnopjakpjoeaaGreatDoor
open Go.RowKit
set_option linter.unusedVariables false
set_option linter.unusedSimpArgs false

theorem Same_any (v u : Value) (l m : List (BitVec 8)) (w : World) (hv : BytesV w v l) (hu : BytesV w u m) :
    Calls Tryz.prog 10 #[v, u] w fun e w' => e = .returned (.bool (l == m)) ∧ w = w' := by
  have h1 := run_string hv
  have h2 := run_string hu
  have h3 := strOf_beq l m
  obtain ⟨a, c, rfl, _, _, _, _⟩ := hv
  obtain ⟨a', c', rfl, _, _, _, _⟩ := hu
  go_enter Tryz.func10, Tryz.ntmps10
  go_wp2
  go_ret
  exact ⟨rfl, rfl⟩
end Go.Proofs.YthnnopjakpjoeaaGreatDoor
