/- The walks of capsuleref01: valid, Field, Insert. -/
import Derived.Test.YtabfmhlhdebcpaaGreatDoorRef01B
namespace Go.Proofs.YtabfmhlhdebcpaaGreatDoor
open Go.RowKit
set_option linter.unusedVariables false
set_option linter.unusedSimpArgs false
end Go.Proofs.YtabfmhlhdebcpaaGreatDoor
