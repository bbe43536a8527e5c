/-
  No cell of these rows narrows 'for every input' (looked for: loops, veiled, ifaces, maps, wideKeys, modest, calm, conditions, laid).
  DERIVED. THE GIVEN ROWS OF THIS SEAT. 7 by the template 'for every input the law returns true; each argument reads behind the call as it read before'; 0 by the template 'total and deterministic' (their statements: YtmccihngbdopdaaTotals.lean).
  GIVEN WITH THE SEED: the statements are not yours to turn. If you find one false, say at which input.
  Laid BY PROGRAM, IN A SANDBOX (cutbox-rows.mjs): the forced cells as the released guide's own fill.sh prints them over the translation de943329b971c386… (all of the seat's roots in one cut). By AI agents, Wed Nov 11 2026. No macro, syntax, notation, axiom, sorry.
-/
import Derived.Test.YtmccihngbdopdaaChecked
import GoSem.Claim
import GoSem.ClaimJoined
import GoSem.ClaimMapViews
import Derived.JoinedTies
import Derived.KernelRfl
namespace Go.Proofs.Ytmccihngbdopdaa
/- THE CELL 'sum', in the pinned program and in every row, IS THE sha256 OF THE DUMP (.gsa) THAT YtmccihngbdopdaaProg.lean LOADS. Nothing in Lean hashes anything: it is a label: what it is worth is what the hold of that sum in a sandbox is worth. -/
noncomputable def Try.pinned : Pinned := { name := "ytmccihngbdopdaa", sum := "de943329b971c3866dd7d6f182bff542279a7f6f80f516707630d2532b999f33", checked := Try.checked }
namespace Rows
def none {H : Type} : Left H := { results := [], args := [] }

/-- 'capsulelaw17.ProtectCodes': WHATEVER THE INPUT: true; the input reads as it did. -/
def protectCodesSpec : ChangeSpec := { name := "protectCodes", fn := fun _ => fun
  | [d1, d2, d3, d4, d5] => { results := [.lit (.bool true)], args := [d1, d2, d3, d4, d5] }
  | _ => none }
def protectCodesRow : OpenClaim := { program := "ytmccihngbdopdaa", sum := "de943329b971c3866dd7d6f182bff542279a7f6f80f516707630d2532b999f33", func := "capsule/capsulelaw17.ProtectCodes", spec := "protectCodes", unfollowed := true, recurses := true, apart := false }
def ProtectCodesSaid : Prop := protectCodesRow.holds Try.pinned (OpenSpec.ofChange protectCodesSpec)

/-- ITS FALSE NEIGHBOUR: 'it returns false'. Refute it at one input. -/
def protectCodesWrong : ChangeSpec := { name := "protectCodes", fn := fun _ => fun
  | [d1, d2, d3, d4, d5] => { results := [.lit (.bool false)], args := [d1, d2, d3, d4, d5] }
  | _ => none }
def ProtectCodesWrongFalsely : Prop := protectCodesRow.holds Try.pinned (OpenSpec.ofChange protectCodesWrong)

/-- 'capsulelaw17.ProtectGenerates': WHATEVER THE INPUT: true; the input reads as it did. -/
def protectGeneratesSpec : ChangeSpec := { name := "protectGenerates", fn := fun _ => fun
  | [d1, d2, d3, d4, d5] => { results := [.lit (.bool true)], args := [d1, d2, d3, d4, d5] }
  | _ => none }
def protectGeneratesRow : OpenClaim := { program := "ytmccihngbdopdaa", sum := "de943329b971c3866dd7d6f182bff542279a7f6f80f516707630d2532b999f33", func := "capsule/capsulelaw17.ProtectGenerates", spec := "protectGenerates", unfollowed := true, recurses := true, apart := false }
def ProtectGeneratesSaid : Prop := protectGeneratesRow.holds Try.pinned (OpenSpec.ofChange protectGeneratesSpec)

/-- ITS FALSE NEIGHBOUR: 'it returns false'. Refute it at one input. -/
def protectGeneratesWrong : ChangeSpec := { name := "protectGenerates", fn := fun _ => fun
  | [d1, d2, d3, d4, d5] => { results := [.lit (.bool false)], args := [d1, d2, d3, d4, d5] }
  | _ => none }
def ProtectGeneratesWrongFalsely : Prop := protectGeneratesRow.holds Try.pinned (OpenSpec.ofChange protectGeneratesWrong)

/-- 'capsulelaw17.ProtectChecks': WHATEVER THE INPUT: true; the input reads as it did. -/
def protectChecksSpec : ChangeSpec := { name := "protectChecks", fn := fun _ => fun
  | [d1, d2, d3, d4, d5] => { results := [.lit (.bool true)], args := [d1, d2, d3, d4, d5] }
  | _ => none }
def protectChecksRow : OpenClaim := { program := "ytmccihngbdopdaa", sum := "de943329b971c3866dd7d6f182bff542279a7f6f80f516707630d2532b999f33", func := "capsule/capsulelaw17.ProtectChecks", spec := "protectChecks", unfollowed := true, recurses := true, apart := false }
def ProtectChecksSaid : Prop := protectChecksRow.holds Try.pinned (OpenSpec.ofChange protectChecksSpec)

/-- ITS FALSE NEIGHBOUR: 'it returns false'. Refute it at one input. -/
def protectChecksWrong : ChangeSpec := { name := "protectChecks", fn := fun _ => fun
  | [d1, d2, d3, d4, d5] => { results := [.lit (.bool false)], args := [d1, d2, d3, d4, d5] }
  | _ => none }
def ProtectChecksWrongFalsely : Prop := protectChecksRow.holds Try.pinned (OpenSpec.ofChange protectChecksWrong)

/-- 'capsulelaw17.ProtectErrors': WHATEVER THE INPUT: true; the input reads as it did. -/
def protectErrorsSpec : ChangeSpec := { name := "protectErrors", fn := fun _ => fun
  | [d1, d2, d3, d4, d5, d6] => { results := [.lit (.bool true)], args := [d1, d2, d3, d4, d5, d6] }
  | _ => none }
def protectErrorsRow : OpenClaim := { program := "ytmccihngbdopdaa", sum := "de943329b971c3866dd7d6f182bff542279a7f6f80f516707630d2532b999f33", func := "capsule/capsulelaw17.ProtectErrors", spec := "protectErrors", unfollowed := true, recurses := true, apart := false }
def ProtectErrorsSaid : Prop := protectErrorsRow.holds Try.pinned (OpenSpec.ofChange protectErrorsSpec)

/-- ITS FALSE NEIGHBOUR: 'it returns false'. Refute it at one input. -/
def protectErrorsWrong : ChangeSpec := { name := "protectErrors", fn := fun _ => fun
  | [d1, d2, d3, d4, d5, d6] => { results := [.lit (.bool false)], args := [d1, d2, d3, d4, d5, d6] }
  | _ => none }
def ProtectErrorsWrongFalsely : Prop := protectErrorsRow.holds Try.pinned (OpenSpec.ofChange protectErrorsWrong)

/-- 'capsulelaw17.ProtectStrips': WHATEVER THE INPUT: true; the input reads as it did. -/
def protectStripsSpec : ChangeSpec := { name := "protectStrips", fn := fun _ => fun
  | [d1, d2, d3] => { results := [.lit (.bool true)], args := [d1, d2, d3] }
  | _ => none }
def protectStripsRow : OpenClaim := { program := "ytmccihngbdopdaa", sum := "de943329b971c3866dd7d6f182bff542279a7f6f80f516707630d2532b999f33", func := "capsule/capsulelaw17.ProtectStrips", spec := "protectStrips", unfollowed := true, recurses := true, apart := false }
def ProtectStripsSaid : Prop := protectStripsRow.holds Try.pinned (OpenSpec.ofChange protectStripsSpec)

/-- ITS FALSE NEIGHBOUR: 'it returns false'. Refute it at one input. -/
def protectStripsWrong : ChangeSpec := { name := "protectStrips", fn := fun _ => fun
  | [d1, d2, d3] => { results := [.lit (.bool false)], args := [d1, d2, d3] }
  | _ => none }
def ProtectStripsWrongFalsely : Prop := protectStripsRow.holds Try.pinned (OpenSpec.ofChange protectStripsWrong)

/-- 'capsulelaw17.ProtectHolds': WHATEVER THE INPUT: true; the input reads as it did. -/
def protectHoldsSpec : ChangeSpec := { name := "protectHolds", fn := fun _ => fun
  | [d1, d2, d3, d4, d5] => { results := [.lit (.bool true)], args := [d1, d2, d3, d4, d5] }
  | _ => none }
def protectHoldsRow : OpenClaim := { program := "ytmccihngbdopdaa", sum := "de943329b971c3866dd7d6f182bff542279a7f6f80f516707630d2532b999f33", func := "capsule/capsulelaw17.ProtectHolds", spec := "protectHolds", unfollowed := true, recurses := true, apart := false }
def ProtectHoldsSaid : Prop := protectHoldsRow.holds Try.pinned (OpenSpec.ofChange protectHoldsSpec)

/-- ITS FALSE NEIGHBOUR: 'it returns false'. Refute it at one input. -/
def protectHoldsWrong : ChangeSpec := { name := "protectHolds", fn := fun _ => fun
  | [d1, d2, d3, d4, d5] => { results := [.lit (.bool false)], args := [d1, d2, d3, d4, d5] }
  | _ => none }
def ProtectHoldsWrongFalsely : Prop := protectHoldsRow.holds Try.pinned (OpenSpec.ofChange protectHoldsWrong)

/-- 'capsulelaw17.ProtectFields': WHATEVER THE INPUT: true; the input reads as it did. -/
def protectFieldsSpec : ChangeSpec := { name := "protectFields", fn := fun _ => fun
  | [d1, d2] => { results := [.lit (.bool true)], args := [d1, d2] }
  | _ => none }
def protectFieldsRow : OpenClaim := { program := "ytmccihngbdopdaa", sum := "de943329b971c3866dd7d6f182bff542279a7f6f80f516707630d2532b999f33", func := "capsule/capsulelaw17.ProtectFields", spec := "protectFields", unfollowed := true, recurses := true, apart := false }
def ProtectFieldsSaid : Prop := protectFieldsRow.holds Try.pinned (OpenSpec.ofChange protectFieldsSpec)

/-- ITS FALSE NEIGHBOUR: 'it returns false'. Refute it at one input. -/
def protectFieldsWrong : ChangeSpec := { name := "protectFields", fn := fun _ => fun
  | [d1, d2] => { results := [.lit (.bool false)], args := [d1, d2] }
  | _ => none }
def ProtectFieldsWrongFalsely : Prop := protectFieldsRow.holds Try.pinned (OpenSpec.ofChange protectFieldsWrong)

/- THE SECOND FORM. 'bulk': how many values and letters a reading holds, each counted each time it is reached (what is shared counts as often as it is met; a slice's spare places count too). A statement '..UptoSaid' is the law's where the arguments, and the package variables that the reading takes, are together of bulk at most 1048576: NARROWER than '..Said'. Prove '..Said' where nothing that the law and all that it calls make is longer than what came in: it says more and counts as full. Else prove '..UptoSaid'. A law counts once. -/
mutual
def uptoBulk {H : Type} : DataW H → Nat
  | .lit (.string bytes) => bytes.length + 1
  | .lit _ => 1
  | .nil => 1
  | .ptr d => uptoBulk d + 1
  | .slice elems spare => uptoBulkAll elems + uptoBulkAll spare + 1
  | .agg parts => uptoBulkAll parts + 1
  | .iface _ d => uptoBulk d + 1
  | .map entries => uptoBulkEntries entries + 1
  | .held _ => 1
def uptoBulkAll {H : Type} : List (DataW H) → Nat
  | [] => 0
  | d :: r => uptoBulk d + uptoBulkAll r
def uptoBulkEntries {H : Type} : List (Lit × DataW H) → Nat
  | [] => 0
  | x :: r => uptoBulkEntry x + uptoBulkEntries r
def uptoBulkEntry {H : Type} : Lit × DataW H → Nat
  | (.string bytes, d) => bytes.length + uptoBulk d + 1
  | (_, d) => uptoBulk d + 1
 end
def uptoSmall : (H : Type) → List (DataW H) → Bool := fun _ ds => decide (uptoBulkAll ds ≤ 1048576)
def OpenSpec.upto (s : _root_.Go.ChangeSpec) : _root_.Go.OpenSpec := { _root_.Go.OpenSpec.ofChange s with cond := some uptoSmall }

/-- 'capsulelaw17.ProtectCodes', WHERE WHAT IT READS IS OF BULK AT MOST 1048576: true; the input reads as it did. -/
def protectCodesUptoRow : OpenClaim := { program := "ytmccihngbdopdaa", sum := "de943329b971c3866dd7d6f182bff542279a7f6f80f516707630d2532b999f33", func := "capsule/capsulelaw17.ProtectCodes", spec := "protectCodes", unfollowed := true, recurses := true, apart := false, narrowed := true }
def ProtectCodesUptoSaid : Prop := protectCodesUptoRow.holds Try.pinned (OpenSpec.upto protectCodesSpec)

/-- 'capsulelaw17.ProtectGenerates', WHERE WHAT IT READS IS OF BULK AT MOST 1048576: true; the input reads as it did. -/
def protectGeneratesUptoRow : OpenClaim := { program := "ytmccihngbdopdaa", sum := "de943329b971c3866dd7d6f182bff542279a7f6f80f516707630d2532b999f33", func := "capsule/capsulelaw17.ProtectGenerates", spec := "protectGenerates", unfollowed := true, recurses := true, apart := false, narrowed := true }
def ProtectGeneratesUptoSaid : Prop := protectGeneratesUptoRow.holds Try.pinned (OpenSpec.upto protectGeneratesSpec)

/-- 'capsulelaw17.ProtectChecks', WHERE WHAT IT READS IS OF BULK AT MOST 1048576: true; the input reads as it did. -/
def protectChecksUptoRow : OpenClaim := { program := "ytmccihngbdopdaa", sum := "de943329b971c3866dd7d6f182bff542279a7f6f80f516707630d2532b999f33", func := "capsule/capsulelaw17.ProtectChecks", spec := "protectChecks", unfollowed := true, recurses := true, apart := false, narrowed := true }
def ProtectChecksUptoSaid : Prop := protectChecksUptoRow.holds Try.pinned (OpenSpec.upto protectChecksSpec)

/-- 'capsulelaw17.ProtectErrors', WHERE WHAT IT READS IS OF BULK AT MOST 1048576: true; the input reads as it did. -/
def protectErrorsUptoRow : OpenClaim := { program := "ytmccihngbdopdaa", sum := "de943329b971c3866dd7d6f182bff542279a7f6f80f516707630d2532b999f33", func := "capsule/capsulelaw17.ProtectErrors", spec := "protectErrors", unfollowed := true, recurses := true, apart := false, narrowed := true }
def ProtectErrorsUptoSaid : Prop := protectErrorsUptoRow.holds Try.pinned (OpenSpec.upto protectErrorsSpec)

/-- 'capsulelaw17.ProtectStrips', WHERE WHAT IT READS IS OF BULK AT MOST 1048576: true; the input reads as it did. -/
def protectStripsUptoRow : OpenClaim := { program := "ytmccihngbdopdaa", sum := "de943329b971c3866dd7d6f182bff542279a7f6f80f516707630d2532b999f33", func := "capsule/capsulelaw17.ProtectStrips", spec := "protectStrips", unfollowed := true, recurses := true, apart := false, narrowed := true }
def ProtectStripsUptoSaid : Prop := protectStripsUptoRow.holds Try.pinned (OpenSpec.upto protectStripsSpec)

/-- 'capsulelaw17.ProtectHolds', WHERE WHAT IT READS IS OF BULK AT MOST 1048576: true; the input reads as it did. -/
def protectHoldsUptoRow : OpenClaim := { program := "ytmccihngbdopdaa", sum := "de943329b971c3866dd7d6f182bff542279a7f6f80f516707630d2532b999f33", func := "capsule/capsulelaw17.ProtectHolds", spec := "protectHolds", unfollowed := true, recurses := true, apart := false, narrowed := true }
def ProtectHoldsUptoSaid : Prop := protectHoldsUptoRow.holds Try.pinned (OpenSpec.upto protectHoldsSpec)

/-- 'capsulelaw17.ProtectFields', WHERE WHAT IT READS IS OF BULK AT MOST 1048576: true; the input reads as it did. -/
def protectFieldsUptoRow : OpenClaim := { program := "ytmccihngbdopdaa", sum := "de943329b971c3866dd7d6f182bff542279a7f6f80f516707630d2532b999f33", func := "capsule/capsulelaw17.ProtectFields", spec := "protectFields", unfollowed := true, recurses := true, apart := false, narrowed := true }
def ProtectFieldsUptoSaid : Prop := protectFieldsUptoRow.holds Try.pinned (OpenSpec.upto protectFieldsSpec)

end Rows
end Go.Proofs.Ytmccihngbdopdaa
