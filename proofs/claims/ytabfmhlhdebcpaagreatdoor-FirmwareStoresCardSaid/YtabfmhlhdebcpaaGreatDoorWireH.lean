/- The walks of bit fields: wire.mask, Field, Insert. -/
import Derived.Test.YtabfmhlhdebcpaaGreatDoorWireB
import Derived.Deep.QuietTactic
import Derived.BigQuiet
import Derived.Deep.DeepCutAuto
namespace Go.Proofs.YtabfmhlhdebcpaaGreatDoor
open Go.RowKit
set_option linter.unusedVariables false
set_option linter.unusedSimpArgs false
namespace Wire
theorem one_shl (w : Nat) : BitVec.ofInt 64 (2 ^ w) = 1#64 <<< w := by
  apply BitVec.eq_of_toNat_eq
  have e : ((2 : Int) ^ w) = ((2 ^ w : Nat) : Int) := by push_cast; rfl
  rw [e, BitVec.ofInt_natCast, BitVec.toNat_ofNat, BitVec.toNat_shiftLeft, Nat.shiftLeft_eq]
  simp
end Wire
end Go.Proofs.YtabfmhlhdebcpaaGreatDoor
