/-
  No cell of these rows narrows 'for every input' (looked for: loops, veiled, ifaces, maps, wideKeys, modest, calm, conditions, laid).
  DERIVED. THE GIVEN ROWS OF THIS SEAT. 5 by the template 'for every input the law returns true; each argument reads behind the call as it read before'; 0 by the template 'total and deterministic' (their statements: YteicmbapipnbjaaTotals.lean).
  GIVEN WITH THE SEED: the statements are not yours to turn. If you find one false, say at which input.
  Laid BY PROGRAM, IN A SANDBOX (cutbox-rows.mjs): the forced cells as the released guide's own fill.sh prints them over the translation 851d1371bdd383f7… (all of the seat's roots in one cut). By AI agents, Wed Nov 11 2026. No macro, syntax, notation, axiom, sorry.
-/
import Derived.Test.YteicmbapipnbjaaChecked
import GoSem.Claim
import GoSem.ClaimJoined
import GoSem.ClaimMapViews
import Derived.JoinedTies
import Derived.KernelRfl
namespace Go.Proofs.Yteicmbapipnbjaa
/- THE CELL 'sum', in the pinned program and in every row, IS THE sha256 OF THE DUMP (.gsa) THAT YteicmbapipnbjaaProg.lean LOADS. Nothing in Lean hashes anything: it is a label: what it is worth is what the hold of that sum in a sandbox is worth. -/
noncomputable def Try.pinned : Pinned := { name := "yteicmbapipnbjaa", sum := "851d1371bdd383f74b63142e56dca8568c21e560bb53db6d79687d6af33f0610", checked := Try.checked }
namespace Rows
def none {H : Type} : Left H := { results := [], args := [] }

/-- 'capsulelaw05.SpareEncodes': WHATEVER THE INPUT: true; the input reads as it did. -/
def spareEncodesSpec : ChangeSpec := { name := "spareEncodes", fn := fun _ => fun
  | [d1, d2] => { results := [.lit (.bool true)], args := [d1, d2] }
  | _ => none }
def spareEncodesRow : OpenClaim := { program := "yteicmbapipnbjaa", sum := "851d1371bdd383f74b63142e56dca8568c21e560bb53db6d79687d6af33f0610", func := "capsule/capsulelaw05.SpareEncodes", spec := "spareEncodes", unfollowed := true, recurses := true, apart := false }
def SpareEncodesSaid : Prop := spareEncodesRow.holds Try.pinned (OpenSpec.ofChange spareEncodesSpec)

/-- ITS FALSE NEIGHBOUR: 'it returns false'. Refute it at one input. -/
def spareEncodesWrong : ChangeSpec := { name := "spareEncodes", fn := fun _ => fun
  | [d1, d2] => { results := [.lit (.bool false)], args := [d1, d2] }
  | _ => none }
def SpareEncodesWrongFalsely : Prop := spareEncodesRow.holds Try.pinned (OpenSpec.ofChange spareEncodesWrong)

/-- 'capsulelaw05.SpareTorn': WHATEVER THE INPUT: true; the input reads as it did. -/
def spareTornSpec : ChangeSpec := { name := "spareTorn", fn := fun _ => fun
  | [d1, d2, d3] => { results := [.lit (.bool true)], args := [d1, d2, d3] }
  | _ => none }
def spareTornRow : OpenClaim := { program := "yteicmbapipnbjaa", sum := "851d1371bdd383f74b63142e56dca8568c21e560bb53db6d79687d6af33f0610", func := "capsule/capsulelaw05.SpareTorn", spec := "spareTorn", unfollowed := true, recurses := true, apart := false }
def SpareTornSaid : Prop := spareTornRow.holds Try.pinned (OpenSpec.ofChange spareTornSpec)

/-- ITS FALSE NEIGHBOUR: 'it returns false'. Refute it at one input. -/
def spareTornWrong : ChangeSpec := { name := "spareTorn", fn := fun _ => fun
  | [d1, d2, d3] => { results := [.lit (.bool false)], args := [d1, d2, d3] }
  | _ => none }
def SpareTornWrongFalsely : Prop := spareTornRow.holds Try.pinned (OpenSpec.ofChange spareTornWrong)

/-- 'capsulelaw05.SpareHolds': WHATEVER THE INPUT: true; the input reads as it did. -/
def spareHoldsSpec : ChangeSpec := { name := "spareHolds", fn := fun _ => fun
  | [d1, d2, d3, d4] => { results := [.lit (.bool true)], args := [d1, d2, d3, d4] }
  | _ => none }
def spareHoldsRow : OpenClaim := { program := "yteicmbapipnbjaa", sum := "851d1371bdd383f74b63142e56dca8568c21e560bb53db6d79687d6af33f0610", func := "capsule/capsulelaw05.SpareHolds", spec := "spareHolds", unfollowed := true, recurses := true, apart := false }
def SpareHoldsSaid : Prop := spareHoldsRow.holds Try.pinned (OpenSpec.ofChange spareHoldsSpec)

/-- ITS FALSE NEIGHBOUR: 'it returns false'. Refute it at one input. -/
def spareHoldsWrong : ChangeSpec := { name := "spareHolds", fn := fun _ => fun
  | [d1, d2, d3, d4] => { results := [.lit (.bool false)], args := [d1, d2, d3, d4] }
  | _ => none }
def SpareHoldsWrongFalsely : Prop := spareHoldsRow.holds Try.pinned (OpenSpec.ofChange spareHoldsWrong)

/-- 'capsulelaw05.SpareDecodes': WHATEVER THE INPUT: true; the input reads as it did. -/
def spareDecodesSpec : ChangeSpec := { name := "spareDecodes", fn := fun _ => fun
  | [d1, d2, d3] => { results := [.lit (.bool true)], args := [d1, d2, d3] }
  | _ => none }
def spareDecodesRow : OpenClaim := { program := "yteicmbapipnbjaa", sum := "851d1371bdd383f74b63142e56dca8568c21e560bb53db6d79687d6af33f0610", func := "capsule/capsulelaw05.SpareDecodes", spec := "spareDecodes", unfollowed := true, recurses := true, apart := false }
def SpareDecodesSaid : Prop := spareDecodesRow.holds Try.pinned (OpenSpec.ofChange spareDecodesSpec)

/-- ITS FALSE NEIGHBOUR: 'it returns false'. Refute it at one input. -/
def spareDecodesWrong : ChangeSpec := { name := "spareDecodes", fn := fun _ => fun
  | [d1, d2, d3] => { results := [.lit (.bool false)], args := [d1, d2, d3] }
  | _ => none }
def SpareDecodesWrongFalsely : Prop := spareDecodesRow.holds Try.pinned (OpenSpec.ofChange spareDecodesWrong)

/-- 'capsulelaw05.SpareNames': WHATEVER THE INPUT: true; the input reads as it did. -/
def spareNamesSpec : ChangeSpec := { name := "spareNames", fn := fun _ => fun
  | [d] => { results := [.lit (.bool true)], args := [d] }
  | _ => none }
def spareNamesRow : OpenClaim := { program := "yteicmbapipnbjaa", sum := "851d1371bdd383f74b63142e56dca8568c21e560bb53db6d79687d6af33f0610", func := "capsule/capsulelaw05.SpareNames", spec := "spareNames", unfollowed := true, recurses := true, apart := false }
def SpareNamesSaid : Prop := spareNamesRow.holds Try.pinned (OpenSpec.ofChange spareNamesSpec)

/-- ITS FALSE NEIGHBOUR: 'it returns false'. Refute it at one input. -/
def spareNamesWrong : ChangeSpec := { name := "spareNames", fn := fun _ => fun
  | [d] => { results := [.lit (.bool false)], args := [d] }
  | _ => none }
def SpareNamesWrongFalsely : Prop := spareNamesRow.holds Try.pinned (OpenSpec.ofChange spareNamesWrong)

/- THE SECOND FORM. 'bulk': how many values and letters a reading holds, each counted each time it is reached (what is shared counts as often as it is met; a slice's spare places count too). A statement '..UptoSaid' is the law's where the arguments, and the package variables that the reading takes, are together of bulk at most 1048576: NARROWER than '..Said'. Prove '..Said' where nothing that the law and all that it calls make is longer than what came in: it says more and counts as full. Else prove '..UptoSaid'. A law counts once. -/
mutual
def uptoBulk {H : Type} : DataW H → Nat
  | .lit (.string bytes) => bytes.length + 1
  | .lit _ => 1
  | .nil => 1
  | .ptr d => uptoBulk d + 1
  | .slice elems spare => uptoBulkAll elems + uptoBulkAll spare + 1
  | .agg parts => uptoBulkAll parts + 1
  | .iface _ d => uptoBulk d + 1
  | .map entries => uptoBulkEntries entries + 1
  | .held _ => 1
def uptoBulkAll {H : Type} : List (DataW H) → Nat
  | [] => 0
  | d :: r => uptoBulk d + uptoBulkAll r
def uptoBulkEntries {H : Type} : List (Lit × DataW H) → Nat
  | [] => 0
  | x :: r => uptoBulkEntry x + uptoBulkEntries r
def uptoBulkEntry {H : Type} : Lit × DataW H → Nat
  | (.string bytes, d) => bytes.length + uptoBulk d + 1
  | (_, d) => uptoBulk d + 1
 end
def uptoSmall : (H : Type) → List (DataW H) → Bool := fun _ ds => decide (uptoBulkAll ds ≤ 1048576)
def OpenSpec.upto (s : _root_.Go.ChangeSpec) : _root_.Go.OpenSpec := { _root_.Go.OpenSpec.ofChange s with cond := some uptoSmall }

/-- 'capsulelaw05.SpareEncodes', WHERE WHAT IT READS IS OF BULK AT MOST 1048576: true; the input reads as it did. -/
def spareEncodesUptoRow : OpenClaim := { program := "yteicmbapipnbjaa", sum := "851d1371bdd383f74b63142e56dca8568c21e560bb53db6d79687d6af33f0610", func := "capsule/capsulelaw05.SpareEncodes", spec := "spareEncodes", unfollowed := true, recurses := true, apart := false, narrowed := true }
def SpareEncodesUptoSaid : Prop := spareEncodesUptoRow.holds Try.pinned (OpenSpec.upto spareEncodesSpec)

/-- 'capsulelaw05.SpareTorn', WHERE WHAT IT READS IS OF BULK AT MOST 1048576: true; the input reads as it did. -/
def spareTornUptoRow : OpenClaim := { program := "yteicmbapipnbjaa", sum := "851d1371bdd383f74b63142e56dca8568c21e560bb53db6d79687d6af33f0610", func := "capsule/capsulelaw05.SpareTorn", spec := "spareTorn", unfollowed := true, recurses := true, apart := false, narrowed := true }
def SpareTornUptoSaid : Prop := spareTornUptoRow.holds Try.pinned (OpenSpec.upto spareTornSpec)

/-- 'capsulelaw05.SpareHolds', WHERE WHAT IT READS IS OF BULK AT MOST 1048576: true; the input reads as it did. -/
def spareHoldsUptoRow : OpenClaim := { program := "yteicmbapipnbjaa", sum := "851d1371bdd383f74b63142e56dca8568c21e560bb53db6d79687d6af33f0610", func := "capsule/capsulelaw05.SpareHolds", spec := "spareHolds", unfollowed := true, recurses := true, apart := false, narrowed := true }
def SpareHoldsUptoSaid : Prop := spareHoldsUptoRow.holds Try.pinned (OpenSpec.upto spareHoldsSpec)

/-- 'capsulelaw05.SpareDecodes', WHERE WHAT IT READS IS OF BULK AT MOST 1048576: true; the input reads as it did. -/
def spareDecodesUptoRow : OpenClaim := { program := "yteicmbapipnbjaa", sum := "851d1371bdd383f74b63142e56dca8568c21e560bb53db6d79687d6af33f0610", func := "capsule/capsulelaw05.SpareDecodes", spec := "spareDecodes", unfollowed := true, recurses := true, apart := false, narrowed := true }
def SpareDecodesUptoSaid : Prop := spareDecodesUptoRow.holds Try.pinned (OpenSpec.upto spareDecodesSpec)

/-- 'capsulelaw05.SpareNames', WHERE WHAT IT READS IS OF BULK AT MOST 1048576: true; the input reads as it did. -/
def spareNamesUptoRow : OpenClaim := { program := "yteicmbapipnbjaa", sum := "851d1371bdd383f74b63142e56dca8568c21e560bb53db6d79687d6af33f0610", func := "capsule/capsulelaw05.SpareNames", spec := "spareNames", unfollowed := true, recurses := true, apart := false, narrowed := true }
def SpareNamesUptoSaid : Prop := spareNamesUptoRow.holds Try.pinned (OpenSpec.upto spareNamesSpec)

end Rows
end Go.Proofs.Yteicmbapipnbjaa
