/-
  No cell of these rows narrows 'for every input' (looked for: loops, veiled, ifaces, maps, wideKeys, modest, calm, conditions, laid).
  DERIVED. THE GIVEN ROWS OF THIS SEAT. 7 by the template 'for every input the law returns true; each argument reads behind the call as it read before'; 0 by the template 'total and deterministic' (their statements: YtjbgkbhpalfbiaaTotals.lean).
  GIVEN WITH THE SEED: the statements are not yours to turn. If you find one false, say at which input.
  Laid BY PROGRAM, IN A SANDBOX (cutbox-rows.mjs): the forced cells as the released guide's own fill.sh prints them over the translation 5091a1a75f7f24b5… (all of the seat's roots in one cut). By AI agents, Wed Nov 11 2026. No macro, syntax, notation, axiom, sorry.
-/
import Derived.Test.YtjbgkbhpalfbiaaChecked
import GoSem.Claim
import GoSem.ClaimJoined
import GoSem.ClaimMapViews
import Derived.JoinedTies
import Derived.KernelRfl
namespace Go.Proofs.Ytjbgkbhpalfbiaa
/- THE CELL 'sum', in the pinned program and in every row, IS THE sha256 OF THE DUMP (.gsa) THAT YtjbgkbhpalfbiaaProg.lean LOADS. Nothing in Lean hashes anything: it is a label: what it is worth is what the hold of that sum in a sandbox is worth. -/
noncomputable def Try.pinned : Pinned := { name := "ytjbgkbhpalfbiaa", sum := "5091a1a75f7f24b5fce10f36ab66eb5c1b2208a2260a550aaa20fcf1c5223cd3", checked := Try.checked }
namespace Rows
def none {H : Type} : Left H := { results := [], args := [] }

/-- 'capsulelaw02.Digest32': WHATEVER THE INPUT: true; the input reads as it did. -/
def digest32Spec : ChangeSpec := { name := "digest32", fn := fun _ => fun
  | [d] => { results := [.lit (.bool true)], args := [d] }
  | _ => none }
def digest32Row : OpenClaim := { program := "ytjbgkbhpalfbiaa", sum := "5091a1a75f7f24b5fce10f36ab66eb5c1b2208a2260a550aaa20fcf1c5223cd3", func := "capsule/capsulelaw02.Digest32", spec := "digest32", unfollowed := true, recurses := true, apart := false }
def Digest32Said : Prop := digest32Row.holds Try.pinned (OpenSpec.ofChange digest32Spec)

/-- ITS FALSE NEIGHBOUR: 'it returns false'. Refute it at one input. -/
def digest32Wrong : ChangeSpec := { name := "digest32", fn := fun _ => fun
  | [d] => { results := [.lit (.bool false)], args := [d] }
  | _ => none }
def Digest32WrongFalsely : Prop := digest32Row.holds Try.pinned (OpenSpec.ofChange digest32Wrong)

/-- 'capsulelaw02.Digest16': WHATEVER THE INPUT: true; the input reads as it did. -/
def digest16Spec : ChangeSpec := { name := "digest16", fn := fun _ => fun
  | [d] => { results := [.lit (.bool true)], args := [d] }
  | _ => none }
def digest16Row : OpenClaim := { program := "ytjbgkbhpalfbiaa", sum := "5091a1a75f7f24b5fce10f36ab66eb5c1b2208a2260a550aaa20fcf1c5223cd3", func := "capsule/capsulelaw02.Digest16", spec := "digest16", unfollowed := true, recurses := true, apart := false }
def Digest16Said : Prop := digest16Row.holds Try.pinned (OpenSpec.ofChange digest16Spec)

/-- ITS FALSE NEIGHBOUR: 'it returns false'. Refute it at one input. -/
def digest16Wrong : ChangeSpec := { name := "digest16", fn := fun _ => fun
  | [d] => { results := [.lit (.bool false)], args := [d] }
  | _ => none }
def Digest16WrongFalsely : Prop := digest16Row.holds Try.pinned (OpenSpec.ofChange digest16Wrong)

/-- 'capsulelaw02.DigestParts': WHATEVER THE INPUT: true; the input reads as it did. -/
def digestPartsSpec : ChangeSpec := { name := "digestParts", fn := fun _ => fun
  | [d] => { results := [.lit (.bool true)], args := [d] }
  | _ => none }
def digestPartsRow : OpenClaim := { program := "ytjbgkbhpalfbiaa", sum := "5091a1a75f7f24b5fce10f36ab66eb5c1b2208a2260a550aaa20fcf1c5223cd3", func := "capsule/capsulelaw02.DigestParts", spec := "digestParts", unfollowed := true, recurses := true, apart := false }
def DigestPartsSaid : Prop := digestPartsRow.holds Try.pinned (OpenSpec.ofChange digestPartsSpec)

/-- ITS FALSE NEIGHBOUR: 'it returns false'. Refute it at one input. -/
def digestPartsWrong : ChangeSpec := { name := "digestParts", fn := fun _ => fun
  | [d] => { results := [.lit (.bool false)], args := [d] }
  | _ => none }
def DigestPartsWrongFalsely : Prop := digestPartsRow.holds Try.pinned (OpenSpec.ofChange digestPartsWrong)

/-- 'capsulelaw02.DigestResidue': WHATEVER THE INPUT: true; the input reads as it did. -/
def digestResidueSpec : ChangeSpec := { name := "digestResidue", fn := fun _ => fun
  | [d] => { results := [.lit (.bool true)], args := [d] }
  | _ => none }
def digestResidueRow : OpenClaim := { program := "ytjbgkbhpalfbiaa", sum := "5091a1a75f7f24b5fce10f36ab66eb5c1b2208a2260a550aaa20fcf1c5223cd3", func := "capsule/capsulelaw02.DigestResidue", spec := "digestResidue", unfollowed := true, recurses := true, apart := false }
def DigestResidueSaid : Prop := digestResidueRow.holds Try.pinned (OpenSpec.ofChange digestResidueSpec)

/-- ITS FALSE NEIGHBOUR: 'it returns false'. Refute it at one input. -/
def digestResidueWrong : ChangeSpec := { name := "digestResidue", fn := fun _ => fun
  | [d] => { results := [.lit (.bool false)], args := [d] }
  | _ => none }
def DigestResidueWrongFalsely : Prop := digestResidueRow.holds Try.pinned (OpenSpec.ofChange digestResidueWrong)

/-- 'capsulelaw02.DigestBursts': WHATEVER THE INPUT: true; the input reads as it did. -/
def digestBurstsSpec : ChangeSpec := { name := "digestBursts", fn := fun _ => fun
  | [d1, d2, d3] => { results := [.lit (.bool true)], args := [d1, d2, d3] }
  | _ => none }
def digestBurstsRow : OpenClaim := { program := "ytjbgkbhpalfbiaa", sum := "5091a1a75f7f24b5fce10f36ab66eb5c1b2208a2260a550aaa20fcf1c5223cd3", func := "capsule/capsulelaw02.DigestBursts", spec := "digestBursts", unfollowed := true, recurses := true, apart := false }
def DigestBurstsSaid : Prop := digestBurstsRow.holds Try.pinned (OpenSpec.ofChange digestBurstsSpec)

/-- ITS FALSE NEIGHBOUR: 'it returns false'. Refute it at one input. -/
def digestBurstsWrong : ChangeSpec := { name := "digestBursts", fn := fun _ => fun
  | [d1, d2, d3] => { results := [.lit (.bool false)], args := [d1, d2, d3] }
  | _ => none }
def DigestBurstsWrongFalsely : Prop := digestBurstsRow.holds Try.pinned (OpenSpec.ofChange digestBurstsWrong)

/-- 'capsulelaw02.DigestUpdates': WHATEVER THE INPUT: true; the input reads as it did. -/
def digestUpdatesSpec : ChangeSpec := { name := "digestUpdates", fn := fun _ => fun
  | [d1, d2, d3] => { results := [.lit (.bool true)], args := [d1, d2, d3] }
  | _ => none }
def digestUpdatesRow : OpenClaim := { program := "ytjbgkbhpalfbiaa", sum := "5091a1a75f7f24b5fce10f36ab66eb5c1b2208a2260a550aaa20fcf1c5223cd3", func := "capsule/capsulelaw02.DigestUpdates", spec := "digestUpdates", unfollowed := true, recurses := true, apart := false }
def DigestUpdatesSaid : Prop := digestUpdatesRow.holds Try.pinned (OpenSpec.ofChange digestUpdatesSpec)

/-- ITS FALSE NEIGHBOUR: 'it returns false'. Refute it at one input. -/
def digestUpdatesWrong : ChangeSpec := { name := "digestUpdates", fn := fun _ => fun
  | [d1, d2, d3] => { results := [.lit (.bool false)], args := [d1, d2, d3] }
  | _ => none }
def DigestUpdatesWrongFalsely : Prop := digestUpdatesRow.holds Try.pinned (OpenSpec.ofChange digestUpdatesWrong)

/-- 'capsulelaw02.DigestLinear': WHATEVER THE INPUT: true; the input reads as it did. -/
def digestLinearSpec : ChangeSpec := { name := "digestLinear", fn := fun _ => fun
  | [d1, d2, d3, d4, d5, d6] => { results := [.lit (.bool true)], args := [d1, d2, d3, d4, d5, d6] }
  | _ => none }
def digestLinearRow : OpenClaim := { program := "ytjbgkbhpalfbiaa", sum := "5091a1a75f7f24b5fce10f36ab66eb5c1b2208a2260a550aaa20fcf1c5223cd3", func := "capsule/capsulelaw02.DigestLinear", spec := "digestLinear", unfollowed := true, recurses := true, apart := false }
def DigestLinearSaid : Prop := digestLinearRow.holds Try.pinned (OpenSpec.ofChange digestLinearSpec)

/-- ITS FALSE NEIGHBOUR: 'it returns false'. Refute it at one input. -/
def digestLinearWrong : ChangeSpec := { name := "digestLinear", fn := fun _ => fun
  | [d1, d2, d3, d4, d5, d6] => { results := [.lit (.bool false)], args := [d1, d2, d3, d4, d5, d6] }
  | _ => none }
def DigestLinearWrongFalsely : Prop := digestLinearRow.holds Try.pinned (OpenSpec.ofChange digestLinearWrong)

/- THE SECOND FORM. 'bulk': how many values and letters a reading holds, each counted each time it is reached (what is shared counts as often as it is met; a slice's spare places count too). A statement '..UptoSaid' is the law's where the arguments, and the package variables that the reading takes, are together of bulk at most 1048576: NARROWER than '..Said'. Prove '..Said' where nothing that the law and all that it calls make is longer than what came in: it says more and counts as full. Else prove '..UptoSaid'. A law counts once. -/
mutual
def uptoBulk {H : Type} : DataW H → Nat
  | .lit (.string bytes) => bytes.length + 1
  | .lit _ => 1
  | .nil => 1
  | .ptr d => uptoBulk d + 1
  | .slice elems spare => uptoBulkAll elems + uptoBulkAll spare + 1
  | .agg parts => uptoBulkAll parts + 1
  | .iface _ d => uptoBulk d + 1
  | .map entries => uptoBulkEntries entries + 1
  | .held _ => 1
def uptoBulkAll {H : Type} : List (DataW H) → Nat
  | [] => 0
  | d :: r => uptoBulk d + uptoBulkAll r
def uptoBulkEntries {H : Type} : List (Lit × DataW H) → Nat
  | [] => 0
  | x :: r => uptoBulkEntry x + uptoBulkEntries r
def uptoBulkEntry {H : Type} : Lit × DataW H → Nat
  | (.string bytes, d) => bytes.length + uptoBulk d + 1
  | (_, d) => uptoBulk d + 1
 end
def uptoSmall : (H : Type) → List (DataW H) → Bool := fun _ ds => decide (uptoBulkAll ds ≤ 1048576)
def OpenSpec.upto (s : _root_.Go.ChangeSpec) : _root_.Go.OpenSpec := { _root_.Go.OpenSpec.ofChange s with cond := some uptoSmall }

/-- 'capsulelaw02.Digest32', WHERE WHAT IT READS IS OF BULK AT MOST 1048576: true; the input reads as it did. -/
def digest32UptoRow : OpenClaim := { program := "ytjbgkbhpalfbiaa", sum := "5091a1a75f7f24b5fce10f36ab66eb5c1b2208a2260a550aaa20fcf1c5223cd3", func := "capsule/capsulelaw02.Digest32", spec := "digest32", unfollowed := true, recurses := true, apart := false, narrowed := true }
def Digest32UptoSaid : Prop := digest32UptoRow.holds Try.pinned (OpenSpec.upto digest32Spec)

/-- 'capsulelaw02.Digest16', WHERE WHAT IT READS IS OF BULK AT MOST 1048576: true; the input reads as it did. -/
def digest16UptoRow : OpenClaim := { program := "ytjbgkbhpalfbiaa", sum := "5091a1a75f7f24b5fce10f36ab66eb5c1b2208a2260a550aaa20fcf1c5223cd3", func := "capsule/capsulelaw02.Digest16", spec := "digest16", unfollowed := true, recurses := true, apart := false, narrowed := true }
def Digest16UptoSaid : Prop := digest16UptoRow.holds Try.pinned (OpenSpec.upto digest16Spec)

/-- 'capsulelaw02.DigestParts', WHERE WHAT IT READS IS OF BULK AT MOST 1048576: true; the input reads as it did. -/
def digestPartsUptoRow : OpenClaim := { program := "ytjbgkbhpalfbiaa", sum := "5091a1a75f7f24b5fce10f36ab66eb5c1b2208a2260a550aaa20fcf1c5223cd3", func := "capsule/capsulelaw02.DigestParts", spec := "digestParts", unfollowed := true, recurses := true, apart := false, narrowed := true }
def DigestPartsUptoSaid : Prop := digestPartsUptoRow.holds Try.pinned (OpenSpec.upto digestPartsSpec)

/-- 'capsulelaw02.DigestResidue', WHERE WHAT IT READS IS OF BULK AT MOST 1048576: true; the input reads as it did. -/
def digestResidueUptoRow : OpenClaim := { program := "ytjbgkbhpalfbiaa", sum := "5091a1a75f7f24b5fce10f36ab66eb5c1b2208a2260a550aaa20fcf1c5223cd3", func := "capsule/capsulelaw02.DigestResidue", spec := "digestResidue", unfollowed := true, recurses := true, apart := false, narrowed := true }
def DigestResidueUptoSaid : Prop := digestResidueUptoRow.holds Try.pinned (OpenSpec.upto digestResidueSpec)

/-- 'capsulelaw02.DigestBursts', WHERE WHAT IT READS IS OF BULK AT MOST 1048576: true; the input reads as it did. -/
def digestBurstsUptoRow : OpenClaim := { program := "ytjbgkbhpalfbiaa", sum := "5091a1a75f7f24b5fce10f36ab66eb5c1b2208a2260a550aaa20fcf1c5223cd3", func := "capsule/capsulelaw02.DigestBursts", spec := "digestBursts", unfollowed := true, recurses := true, apart := false, narrowed := true }
def DigestBurstsUptoSaid : Prop := digestBurstsUptoRow.holds Try.pinned (OpenSpec.upto digestBurstsSpec)

/-- 'capsulelaw02.DigestUpdates', WHERE WHAT IT READS IS OF BULK AT MOST 1048576: true; the input reads as it did. -/
def digestUpdatesUptoRow : OpenClaim := { program := "ytjbgkbhpalfbiaa", sum := "5091a1a75f7f24b5fce10f36ab66eb5c1b2208a2260a550aaa20fcf1c5223cd3", func := "capsule/capsulelaw02.DigestUpdates", spec := "digestUpdates", unfollowed := true, recurses := true, apart := false, narrowed := true }
def DigestUpdatesUptoSaid : Prop := digestUpdatesUptoRow.holds Try.pinned (OpenSpec.upto digestUpdatesSpec)

/-- 'capsulelaw02.DigestLinear', WHERE WHAT IT READS IS OF BULK AT MOST 1048576: true; the input reads as it did. -/
def digestLinearUptoRow : OpenClaim := { program := "ytjbgkbhpalfbiaa", sum := "5091a1a75f7f24b5fce10f36ab66eb5c1b2208a2260a550aaa20fcf1c5223cd3", func := "capsule/capsulelaw02.DigestLinear", spec := "digestLinear", unfollowed := true, recurses := true, apart := false, narrowed := true }
def DigestLinearUptoSaid : Prop := digestLinearUptoRow.holds Try.pinned (OpenSpec.upto digestLinearSpec)

end Rows
end Go.Proofs.Ytjbgkbhpalfbiaa
