/-
  No cell of these rows narrows 'for every input' (looked for: loops, veiled, ifaces, maps, wideKeys, modest, calm, conditions, laid).
  DERIVED. THE GIVEN ROWS OF THIS SEAT. 7 by the template 'for every input the law returns true; each argument reads behind the call as it read before'; 0 by the template 'total and deterministic' (their statements: YtccllneifkeimaaTotals.lean).
  GIVEN WITH THE SEED: the statements are not yours to turn. If you find one false, say at which input.
  Laid BY PROGRAM, IN A SANDBOX (cutbox-rows.mjs): the forced cells as the released guide's own fill.sh prints them over the translation 975bd6c5df523bb6… (all of the seat's roots in one cut). By AI agents, Wed Nov 11 2026. No macro, syntax, notation, axiom, sorry.
-/
import Derived.Test.YtccllneifkeimaaChecked
import GoSem.Claim
import GoSem.ClaimJoined
import GoSem.ClaimMapViews
import Derived.JoinedTies
import Derived.KernelRfl
namespace Go.Proofs.Ytccllneifkeimaa
/- THE CELL 'sum', in the pinned program and in every row, IS THE sha256 OF THE DUMP (.gsa) THAT YtccllneifkeimaaProg.lean LOADS. Nothing in Lean hashes anything: it is a label: what it is worth is what the hold of that sum in a sandbox is worth. -/
noncomputable def Try.pinned : Pinned := { name := "ytccllneifkeimaa", sum := "975bd6c5df523bb620a9dd5bee29a017f71da759c18893041d340bff2bad31eb", checked := Try.checked }
namespace Rows
def none {H : Type} : Left H := { results := [], args := [] }

/-- 'capsulelaw24.IdentifyControllers': WHATEVER THE INPUT: true; the input reads as it did. -/
def identifyControllersSpec : ChangeSpec := { name := "identifyControllers", fn := fun _ => fun
  | [d] => { results := [.lit (.bool true)], args := [d] }
  | _ => none }
def identifyControllersRow : OpenClaim := { program := "ytccllneifkeimaa", sum := "975bd6c5df523bb620a9dd5bee29a017f71da759c18893041d340bff2bad31eb", func := "capsule/capsulelaw24.IdentifyControllers", spec := "identifyControllers", inPlace := ["internal/abi.NoEscape", "internal/bytealg.MakeNoZero"], unfollowed := true, recurses := true, apart := false }
def IdentifyControllersSaid : Prop := identifyControllersRow.holds Try.pinned (OpenSpec.ofChange identifyControllersSpec)

/-- ITS FALSE NEIGHBOUR: 'it returns false'. Refute it at one input. -/
def identifyControllersWrong : ChangeSpec := { name := "identifyControllers", fn := fun _ => fun
  | [d] => { results := [.lit (.bool false)], args := [d] }
  | _ => none }
def IdentifyControllersWrongFalsely : Prop := identifyControllersRow.holds Try.pinned (OpenSpec.ofChange identifyControllersWrong)

/-- 'capsulelaw24.IdentifyLists': WHATEVER THE INPUT: true; the input reads as it did. -/
def identifyListsSpec : ChangeSpec := { name := "identifyLists", fn := fun _ => fun
  | [d1, d2] => { results := [.lit (.bool true)], args := [d1, d2] }
  | _ => none }
def identifyListsRow : OpenClaim := { program := "ytccllneifkeimaa", sum := "975bd6c5df523bb620a9dd5bee29a017f71da759c18893041d340bff2bad31eb", func := "capsule/capsulelaw24.IdentifyLists", spec := "identifyLists", inPlace := ["internal/abi.NoEscape", "internal/bytealg.MakeNoZero"], unfollowed := true, recurses := true, apart := false }
def IdentifyListsSaid : Prop := identifyListsRow.holds Try.pinned (OpenSpec.ofChange identifyListsSpec)

/-- ITS FALSE NEIGHBOUR: 'it returns false'. Refute it at one input. -/
def identifyListsWrong : ChangeSpec := { name := "identifyLists", fn := fun _ => fun
  | [d1, d2] => { results := [.lit (.bool false)], args := [d1, d2] }
  | _ => none }
def IdentifyListsWrongFalsely : Prop := identifyListsRow.holds Try.pinned (OpenSpec.ofChange identifyListsWrong)

/-- 'capsulelaw24.IdentifyWalks': WHATEVER THE INPUT: true; the input reads as it did. -/
def identifyWalksSpec : ChangeSpec := { name := "identifyWalks", fn := fun _ => fun
  | [d1, d2] => { results := [.lit (.bool true)], args := [d1, d2] }
  | _ => none }
def identifyWalksRow : OpenClaim := { program := "ytccllneifkeimaa", sum := "975bd6c5df523bb620a9dd5bee29a017f71da759c18893041d340bff2bad31eb", func := "capsule/capsulelaw24.IdentifyWalks", spec := "identifyWalks", inPlace := ["internal/abi.NoEscape", "internal/bytealg.MakeNoZero"], unfollowed := true, recurses := true, apart := false }
def IdentifyWalksSaid : Prop := identifyWalksRow.holds Try.pinned (OpenSpec.ofChange identifyWalksSpec)

/-- ITS FALSE NEIGHBOUR: 'it returns false'. Refute it at one input. -/
def identifyWalksWrong : ChangeSpec := { name := "identifyWalks", fn := fun _ => fun
  | [d1, d2] => { results := [.lit (.bool false)], args := [d1, d2] }
  | _ => none }
def IdentifyWalksWrongFalsely : Prop := identifyWalksRow.holds Try.pinned (OpenSpec.ofChange identifyWalksWrong)

/-- 'capsulelaw24.IdentifyIDs': WHATEVER THE INPUT: true; the input reads as it did. -/
def identifyIDsSpec : ChangeSpec := { name := "identifyIDs", fn := fun _ => fun
  | [d1, d2] => { results := [.lit (.bool true)], args := [d1, d2] }
  | _ => none }
def identifyIDsRow : OpenClaim := { program := "ytccllneifkeimaa", sum := "975bd6c5df523bb620a9dd5bee29a017f71da759c18893041d340bff2bad31eb", func := "capsule/capsulelaw24.IdentifyIDs", spec := "identifyIDs", inPlace := ["internal/abi.NoEscape", "internal/bytealg.MakeNoZero"], unfollowed := true, recurses := true, apart := false }
def IdentifyIDsSaid : Prop := identifyIDsRow.holds Try.pinned (OpenSpec.ofChange identifyIDsSpec)

/-- ITS FALSE NEIGHBOUR: 'it returns false'. Refute it at one input. -/
def identifyIDsWrong : ChangeSpec := { name := "identifyIDs", fn := fun _ => fun
  | [d1, d2] => { results := [.lit (.bool false)], args := [d1, d2] }
  | _ => none }
def IdentifyIDsWrongFalsely : Prop := identifyIDsRow.holds Try.pinned (OpenSpec.ofChange identifyIDsWrong)

/-- 'capsulelaw24.IdentifyNamespaces': WHATEVER THE INPUT: true; the input reads as it did. -/
def identifyNamespacesSpec : ChangeSpec := { name := "identifyNamespaces", fn := fun _ => fun
  | [d1, d2] => { results := [.lit (.bool true)], args := [d1, d2] }
  | _ => none }
def identifyNamespacesRow : OpenClaim := { program := "ytccllneifkeimaa", sum := "975bd6c5df523bb620a9dd5bee29a017f71da759c18893041d340bff2bad31eb", func := "capsule/capsulelaw24.IdentifyNamespaces", spec := "identifyNamespaces", inPlace := ["internal/abi.NoEscape", "internal/bytealg.MakeNoZero"], unfollowed := true, recurses := true, apart := false }
def IdentifyNamespacesSaid : Prop := identifyNamespacesRow.holds Try.pinned (OpenSpec.ofChange identifyNamespacesSpec)

/-- ITS FALSE NEIGHBOUR: 'it returns false'. Refute it at one input. -/
def identifyNamespacesWrong : ChangeSpec := { name := "identifyNamespaces", fn := fun _ => fun
  | [d1, d2] => { results := [.lit (.bool false)], args := [d1, d2] }
  | _ => none }
def IdentifyNamespacesWrongFalsely : Prop := identifyNamespacesRow.holds Try.pinned (OpenSpec.ofChange identifyNamespacesWrong)

/-- 'capsulelaw24.IdentifyZones': WHATEVER THE INPUT: true; the input reads as it did. -/
def identifyZonesSpec : ChangeSpec := { name := "identifyZones", fn := fun _ => fun
  | [d1, d2] => { results := [.lit (.bool true)], args := [d1, d2] }
  | _ => none }
def identifyZonesRow : OpenClaim := { program := "ytccllneifkeimaa", sum := "975bd6c5df523bb620a9dd5bee29a017f71da759c18893041d340bff2bad31eb", func := "capsule/capsulelaw24.IdentifyZones", spec := "identifyZones", inPlace := ["internal/abi.NoEscape", "internal/bytealg.MakeNoZero"], unfollowed := true, recurses := true, apart := false }
def IdentifyZonesSaid : Prop := identifyZonesRow.holds Try.pinned (OpenSpec.ofChange identifyZonesSpec)

/-- ITS FALSE NEIGHBOUR: 'it returns false'. Refute it at one input. -/
def identifyZonesWrong : ChangeSpec := { name := "identifyZones", fn := fun _ => fun
  | [d1, d2] => { results := [.lit (.bool false)], args := [d1, d2] }
  | _ => none }
def IdentifyZonesWrongFalsely : Prop := identifyZonesRow.holds Try.pinned (OpenSpec.ofChange identifyZonesWrong)

/-- 'capsulelaw24.IdentifyNumbers': WHATEVER THE INPUT: true; the input reads as it did. -/
def identifyNumbersSpec : ChangeSpec := { name := "identifyNumbers", fn := fun _ => fun
  | [d1, d2] => { results := [.lit (.bool true)], args := [d1, d2] }
  | _ => none }
def identifyNumbersRow : OpenClaim := { program := "ytccllneifkeimaa", sum := "975bd6c5df523bb620a9dd5bee29a017f71da759c18893041d340bff2bad31eb", func := "capsule/capsulelaw24.IdentifyNumbers", spec := "identifyNumbers", inPlace := ["internal/abi.NoEscape", "internal/bytealg.MakeNoZero"], unfollowed := true, recurses := true, apart := false }
def IdentifyNumbersSaid : Prop := identifyNumbersRow.holds Try.pinned (OpenSpec.ofChange identifyNumbersSpec)

/-- ITS FALSE NEIGHBOUR: 'it returns false'. Refute it at one input. -/
def identifyNumbersWrong : ChangeSpec := { name := "identifyNumbers", fn := fun _ => fun
  | [d1, d2] => { results := [.lit (.bool false)], args := [d1, d2] }
  | _ => none }
def IdentifyNumbersWrongFalsely : Prop := identifyNumbersRow.holds Try.pinned (OpenSpec.ofChange identifyNumbersWrong)

/- THE SECOND FORM. 'bulk': how many values and letters a reading holds, each counted each time it is reached (what is shared counts as often as it is met; a slice's spare places count too). A statement '..UptoSaid' is the law's where the arguments, and the package variables that the reading takes, are together of bulk at most 1048576: NARROWER than '..Said'. Prove '..Said' where nothing that the law and all that it calls make is longer than what came in: it says more and counts as full. Else prove '..UptoSaid'. A law counts once. -/
mutual
def uptoBulk {H : Type} : DataW H → Nat
  | .lit (.string bytes) => bytes.length + 1
  | .lit _ => 1
  | .nil => 1
  | .ptr d => uptoBulk d + 1
  | .slice elems spare => uptoBulkAll elems + uptoBulkAll spare + 1
  | .agg parts => uptoBulkAll parts + 1
  | .iface _ d => uptoBulk d + 1
  | .map entries => uptoBulkEntries entries + 1
  | .held _ => 1
def uptoBulkAll {H : Type} : List (DataW H) → Nat
  | [] => 0
  | d :: r => uptoBulk d + uptoBulkAll r
def uptoBulkEntries {H : Type} : List (Lit × DataW H) → Nat
  | [] => 0
  | x :: r => uptoBulkEntry x + uptoBulkEntries r
def uptoBulkEntry {H : Type} : Lit × DataW H → Nat
  | (.string bytes, d) => bytes.length + uptoBulk d + 1
  | (_, d) => uptoBulk d + 1
 end
def uptoSmall : (H : Type) → List (DataW H) → Bool := fun _ ds => decide (uptoBulkAll ds ≤ 1048576)
def OpenSpec.upto (s : _root_.Go.ChangeSpec) : _root_.Go.OpenSpec := { _root_.Go.OpenSpec.ofChange s with cond := some uptoSmall }

/-- 'capsulelaw24.IdentifyControllers', WHERE WHAT IT READS IS OF BULK AT MOST 1048576: true; the input reads as it did. -/
def identifyControllersUptoRow : OpenClaim := { program := "ytccllneifkeimaa", sum := "975bd6c5df523bb620a9dd5bee29a017f71da759c18893041d340bff2bad31eb", func := "capsule/capsulelaw24.IdentifyControllers", spec := "identifyControllers", inPlace := ["internal/abi.NoEscape", "internal/bytealg.MakeNoZero"], unfollowed := true, recurses := true, apart := false, narrowed := true }
def IdentifyControllersUptoSaid : Prop := identifyControllersUptoRow.holds Try.pinned (OpenSpec.upto identifyControllersSpec)

/-- 'capsulelaw24.IdentifyLists', WHERE WHAT IT READS IS OF BULK AT MOST 1048576: true; the input reads as it did. -/
def identifyListsUptoRow : OpenClaim := { program := "ytccllneifkeimaa", sum := "975bd6c5df523bb620a9dd5bee29a017f71da759c18893041d340bff2bad31eb", func := "capsule/capsulelaw24.IdentifyLists", spec := "identifyLists", inPlace := ["internal/abi.NoEscape", "internal/bytealg.MakeNoZero"], unfollowed := true, recurses := true, apart := false, narrowed := true }
def IdentifyListsUptoSaid : Prop := identifyListsUptoRow.holds Try.pinned (OpenSpec.upto identifyListsSpec)

/-- 'capsulelaw24.IdentifyWalks', WHERE WHAT IT READS IS OF BULK AT MOST 1048576: true; the input reads as it did. -/
def identifyWalksUptoRow : OpenClaim := { program := "ytccllneifkeimaa", sum := "975bd6c5df523bb620a9dd5bee29a017f71da759c18893041d340bff2bad31eb", func := "capsule/capsulelaw24.IdentifyWalks", spec := "identifyWalks", inPlace := ["internal/abi.NoEscape", "internal/bytealg.MakeNoZero"], unfollowed := true, recurses := true, apart := false, narrowed := true }
def IdentifyWalksUptoSaid : Prop := identifyWalksUptoRow.holds Try.pinned (OpenSpec.upto identifyWalksSpec)

/-- 'capsulelaw24.IdentifyIDs', WHERE WHAT IT READS IS OF BULK AT MOST 1048576: true; the input reads as it did. -/
def identifyIDsUptoRow : OpenClaim := { program := "ytccllneifkeimaa", sum := "975bd6c5df523bb620a9dd5bee29a017f71da759c18893041d340bff2bad31eb", func := "capsule/capsulelaw24.IdentifyIDs", spec := "identifyIDs", inPlace := ["internal/abi.NoEscape", "internal/bytealg.MakeNoZero"], unfollowed := true, recurses := true, apart := false, narrowed := true }
def IdentifyIDsUptoSaid : Prop := identifyIDsUptoRow.holds Try.pinned (OpenSpec.upto identifyIDsSpec)

/-- 'capsulelaw24.IdentifyNamespaces', WHERE WHAT IT READS IS OF BULK AT MOST 1048576: true; the input reads as it did. -/
def identifyNamespacesUptoRow : OpenClaim := { program := "ytccllneifkeimaa", sum := "975bd6c5df523bb620a9dd5bee29a017f71da759c18893041d340bff2bad31eb", func := "capsule/capsulelaw24.IdentifyNamespaces", spec := "identifyNamespaces", inPlace := ["internal/abi.NoEscape", "internal/bytealg.MakeNoZero"], unfollowed := true, recurses := true, apart := false, narrowed := true }
def IdentifyNamespacesUptoSaid : Prop := identifyNamespacesUptoRow.holds Try.pinned (OpenSpec.upto identifyNamespacesSpec)

/-- 'capsulelaw24.IdentifyZones', WHERE WHAT IT READS IS OF BULK AT MOST 1048576: true; the input reads as it did. -/
def identifyZonesUptoRow : OpenClaim := { program := "ytccllneifkeimaa", sum := "975bd6c5df523bb620a9dd5bee29a017f71da759c18893041d340bff2bad31eb", func := "capsule/capsulelaw24.IdentifyZones", spec := "identifyZones", inPlace := ["internal/abi.NoEscape", "internal/bytealg.MakeNoZero"], unfollowed := true, recurses := true, apart := false, narrowed := true }
def IdentifyZonesUptoSaid : Prop := identifyZonesUptoRow.holds Try.pinned (OpenSpec.upto identifyZonesSpec)

/-- 'capsulelaw24.IdentifyNumbers', WHERE WHAT IT READS IS OF BULK AT MOST 1048576: true; the input reads as it did. -/
def identifyNumbersUptoRow : OpenClaim := { program := "ytccllneifkeimaa", sum := "975bd6c5df523bb620a9dd5bee29a017f71da759c18893041d340bff2bad31eb", func := "capsule/capsulelaw24.IdentifyNumbers", spec := "identifyNumbers", inPlace := ["internal/abi.NoEscape", "internal/bytealg.MakeNoZero"], unfollowed := true, recurses := true, apart := false, narrowed := true }
def IdentifyNumbersUptoSaid : Prop := identifyNumbersUptoRow.holds Try.pinned (OpenSpec.upto identifyNumbersSpec)

end Rows
end Go.Proofs.Ytccllneifkeimaa
