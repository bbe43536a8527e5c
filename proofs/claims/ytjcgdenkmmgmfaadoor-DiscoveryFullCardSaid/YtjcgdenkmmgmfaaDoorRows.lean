/-
  NARROWER THAN 'FOR EVERY INPUT', by the rows' own cells (each row's printed sentence says how): DiscoveryEncodes: laid · DiscoveryDecodes: laid · DiscoveryBack: laid · DiscoveryHides: laid · DiscoveryFull: laid.
  DERIVED. THE GIVEN ROWS OF THIS SEAT. 5 by the template 'for every input the law returns true; each argument reads behind the call as it read before'; 0 by the template 'total and deterministic' (their statements: YtjcgdenkmmgmfaaDoorTotals.lean).
  GIVEN WITH THE SEED: the statements are not yours to turn. If you find one false, say at which input.
  Laid BY PROGRAM, IN A SANDBOX (cutbox-rows.mjs): the forced cells as the released guide's own fill.sh prints them over the translation 2e842d767acb1614… (all of the seat's roots in one cut). By AI agents, Wed Nov 11 2026. No macro, syntax, notation, axiom, sorry.
-/
import Derived.Test.YtjcgdenkmmgmfaaDoorChecked
import GoSem.PinnedTables
import GoSem.Claim
import GoSem.ClaimJoined
import GoSem.ClaimMapViews
import Derived.JoinedTies
import Derived.KernelRfl
namespace Go.Proofs.YtjcgdenkmmgmfaaDoor
/- THE CELL 'sum', in the pinned program and in every row, IS THE sha256 OF THE DUMP (.gsa) THAT YtjcgdenkmmgmfaaDoorProg.lean LOADS. Nothing in Lean hashes anything: it is a label: what it is worth is what the hold of that sum in a sandbox is worth. -/
noncomputable def Tryd.pinned : Pinned := { name := "ytjcgdenkmmgmfaadoor", sum := "2e842d767acb16142593768c0a1ecd0fc0338d785fd389f6c9f8399a65721ca3", checked := Tryd.checked }
namespace Rows
def none {H : Type} : Left H := { results := [], args := [] }

/- WHAT THE LISTED PACKAGE-LEVEL VARIABLES READ AS WHEN THE CALL BEGINS. Each datum BY PROGRAM (the guide's laid-datum.mjs) off the statement by which the dump's own 'gosem.cut.vars' lays the variable. In a bare row this is a premise. The card (YtjcgdenkmmgmfaaDoorCards.lean) ties it to the program's text. -/
def laid_unicode_utf8_acceptRanges {H : Type} : DataW H := .agg [.agg [.lit (.int .u8 128), .lit (.int .u8 191)], .agg [.lit (.int .u8 160), .lit (.int .u8 191)], .agg [.lit (.int .u8 128), .lit (.int .u8 159)], .agg [.lit (.int .u8 144), .lit (.int .u8 191)], .agg [.lit (.int .u8 128), .lit (.int .u8 143)], .agg [.lit (.int .u8 0), .lit (.int .u8 0)], .agg [.lit (.int .u8 0), .lit (.int .u8 0)], .agg [.lit (.int .u8 0), .lit (.int .u8 0)], .agg [.lit (.int .u8 0), .lit (.int .u8 0)], .agg [.lit (.int .u8 0), .lit (.int .u8 0)], .agg [.lit (.int .u8 0), .lit (.int .u8 0)], .agg [.lit (.int .u8 0), .lit (.int .u8 0)], .agg [.lit (.int .u8 0), .lit (.int .u8 0)], .agg [.lit (.int .u8 0), .lit (.int .u8 0)], .agg [.lit (.int .u8 0), .lit (.int .u8 0)], .agg [.lit (.int .u8 0), .lit (.int .u8 0)]]
/-- One of Go's own tables, pinned by name: the form's constant. -/
def laid_unicode_utf8_first : DataW Unit := Go.Pinned.utf8First

/-- 'capsulelaw40.DiscoveryEncodes': WHATEVER THE INPUT: true; the input reads as it did. -/
def discoveryEncodesSpec : ChangeSpec := { name := "discoveryEncodes", fn := fun _ => fun
  | [d] => { results := [.lit (.bool true)], args := [d] }
  | _ => none }
def discoveryEncodesRow : OpenClaim := { program := "ytjcgdenkmmgmfaadoor", sum := "2e842d767acb16142593768c0a1ecd0fc0338d785fd389f6c9f8399a65721ca3", func := "capsule/capsulelaw40.DiscoveryEncodes", spec := "discoveryEncodes", inPlace := ["internal/abi.NoEscape", "internal/bytealg.MakeNoZero", "internal/bytealg.IndexByteString", "internal/bytealg.IndexString", "internal/bytealg.IndexByte", "internal/bytealg.Index"], unfollowed := true, recurses := true, named := ["unicode/utf8.first", "unicode/utf8.acceptRanges", "internal/bytealg.MaxLen"], apart := false, laid := [("unicode/utf8.acceptRanges", laid_unicode_utf8_acceptRanges), ("unicode/utf8.first", laid_unicode_utf8_first)] }
def DiscoveryEncodesSaid : Prop := discoveryEncodesRow.holds Tryd.pinned (OpenSpec.ofChange discoveryEncodesSpec)

/-- ITS FALSE NEIGHBOUR: 'it returns false'. Refute it at one input. -/
def discoveryEncodesWrong : ChangeSpec := { name := "discoveryEncodes", fn := fun _ => fun
  | [d] => { results := [.lit (.bool false)], args := [d] }
  | _ => none }
def DiscoveryEncodesWrongFalsely : Prop := discoveryEncodesRow.holds Tryd.pinned (OpenSpec.ofChange discoveryEncodesWrong)

/-- 'capsulelaw40.DiscoveryDecodes': WHATEVER THE INPUT: true; the input reads as it did. -/
def discoveryDecodesSpec : ChangeSpec := { name := "discoveryDecodes", fn := fun _ => fun
  | [d] => { results := [.lit (.bool true)], args := [d] }
  | _ => none }
def discoveryDecodesRow : OpenClaim := { program := "ytjcgdenkmmgmfaadoor", sum := "2e842d767acb16142593768c0a1ecd0fc0338d785fd389f6c9f8399a65721ca3", func := "capsule/capsulelaw40.DiscoveryDecodes", spec := "discoveryDecodes", inPlace := ["internal/abi.NoEscape", "internal/bytealg.MakeNoZero", "internal/bytealg.IndexByteString", "internal/bytealg.IndexString", "internal/bytealg.IndexByte", "internal/bytealg.Index"], unfollowed := true, recurses := true, named := ["unicode/utf8.first", "unicode/utf8.acceptRanges", "internal/bytealg.MaxLen"], apart := false, laid := [("unicode/utf8.acceptRanges", laid_unicode_utf8_acceptRanges), ("unicode/utf8.first", laid_unicode_utf8_first)] }
def DiscoveryDecodesSaid : Prop := discoveryDecodesRow.holds Tryd.pinned (OpenSpec.ofChange discoveryDecodesSpec)

/-- ITS FALSE NEIGHBOUR: 'it returns false'. Refute it at one input. -/
def discoveryDecodesWrong : ChangeSpec := { name := "discoveryDecodes", fn := fun _ => fun
  | [d] => { results := [.lit (.bool false)], args := [d] }
  | _ => none }
def DiscoveryDecodesWrongFalsely : Prop := discoveryDecodesRow.holds Tryd.pinned (OpenSpec.ofChange discoveryDecodesWrong)

/-- 'capsulelaw40.DiscoveryBack': WHATEVER THE INPUT: true; the input reads as it did. -/
def discoveryBackSpec : ChangeSpec := { name := "discoveryBack", fn := fun _ => fun
  | [d1, d2] => { results := [.lit (.bool true)], args := [d1, d2] }
  | _ => none }
def discoveryBackRow : OpenClaim := { program := "ytjcgdenkmmgmfaadoor", sum := "2e842d767acb16142593768c0a1ecd0fc0338d785fd389f6c9f8399a65721ca3", func := "capsule/capsulelaw40.DiscoveryBack", spec := "discoveryBack", inPlace := ["internal/abi.NoEscape", "internal/bytealg.MakeNoZero", "internal/bytealg.IndexByteString", "internal/bytealg.IndexString", "internal/bytealg.IndexByte", "internal/bytealg.Index"], unfollowed := true, recurses := true, named := ["unicode/utf8.first", "unicode/utf8.acceptRanges", "internal/bytealg.MaxLen"], apart := false, laid := [("unicode/utf8.acceptRanges", laid_unicode_utf8_acceptRanges), ("unicode/utf8.first", laid_unicode_utf8_first)] }
def DiscoveryBackSaid : Prop := discoveryBackRow.holds Tryd.pinned (OpenSpec.ofChange discoveryBackSpec)

/-- ITS FALSE NEIGHBOUR: 'it returns false'. Refute it at one input. -/
def discoveryBackWrong : ChangeSpec := { name := "discoveryBack", fn := fun _ => fun
  | [d1, d2] => { results := [.lit (.bool false)], args := [d1, d2] }
  | _ => none }
def DiscoveryBackWrongFalsely : Prop := discoveryBackRow.holds Tryd.pinned (OpenSpec.ofChange discoveryBackWrong)

/-- 'capsulelaw40.DiscoveryHides': WHATEVER THE INPUT: true; the input reads as it did. -/
def discoveryHidesSpec : ChangeSpec := { name := "discoveryHides", fn := fun _ => fun
  | [d1, d2, d3] => { results := [.lit (.bool true)], args := [d1, d2, d3] }
  | _ => none }
def discoveryHidesRow : OpenClaim := { program := "ytjcgdenkmmgmfaadoor", sum := "2e842d767acb16142593768c0a1ecd0fc0338d785fd389f6c9f8399a65721ca3", func := "capsule/capsulelaw40.DiscoveryHides", spec := "discoveryHides", inPlace := ["internal/abi.NoEscape", "internal/bytealg.MakeNoZero", "internal/bytealg.IndexByteString", "internal/bytealg.IndexString", "internal/bytealg.IndexByte", "internal/bytealg.Index"], unfollowed := true, recurses := true, named := ["unicode/utf8.first", "unicode/utf8.acceptRanges", "internal/bytealg.MaxLen"], apart := false, laid := [("unicode/utf8.acceptRanges", laid_unicode_utf8_acceptRanges), ("unicode/utf8.first", laid_unicode_utf8_first)] }
def DiscoveryHidesSaid : Prop := discoveryHidesRow.holds Tryd.pinned (OpenSpec.ofChange discoveryHidesSpec)

/-- ITS FALSE NEIGHBOUR: 'it returns false'. Refute it at one input. -/
def discoveryHidesWrong : ChangeSpec := { name := "discoveryHides", fn := fun _ => fun
  | [d1, d2, d3] => { results := [.lit (.bool false)], args := [d1, d2, d3] }
  | _ => none }
def DiscoveryHidesWrongFalsely : Prop := discoveryHidesRow.holds Tryd.pinned (OpenSpec.ofChange discoveryHidesWrong)

/-- 'capsulelaw40.DiscoveryFull': WHATEVER THE INPUT: true; the input reads as it did. -/
def discoveryFullSpec : ChangeSpec := { name := "discoveryFull", fn := fun _ => fun
  | [d] => { results := [.lit (.bool true)], args := [d] }
  | _ => none }
def discoveryFullRow : OpenClaim := { program := "ytjcgdenkmmgmfaadoor", sum := "2e842d767acb16142593768c0a1ecd0fc0338d785fd389f6c9f8399a65721ca3", func := "capsule/capsulelaw40.DiscoveryFull", spec := "discoveryFull", inPlace := ["internal/abi.NoEscape", "internal/bytealg.MakeNoZero", "internal/bytealg.IndexByteString", "internal/bytealg.IndexString", "internal/bytealg.IndexByte", "internal/bytealg.Index"], unfollowed := true, recurses := true, named := ["unicode/utf8.first", "unicode/utf8.acceptRanges", "internal/bytealg.MaxLen"], apart := false, laid := [("unicode/utf8.acceptRanges", laid_unicode_utf8_acceptRanges), ("unicode/utf8.first", laid_unicode_utf8_first)] }
def DiscoveryFullSaid : Prop := discoveryFullRow.holds Tryd.pinned (OpenSpec.ofChange discoveryFullSpec)

/-- ITS FALSE NEIGHBOUR: 'it returns false'. Refute it at one input. -/
def discoveryFullWrong : ChangeSpec := { name := "discoveryFull", fn := fun _ => fun
  | [d] => { results := [.lit (.bool false)], args := [d] }
  | _ => none }
def DiscoveryFullWrongFalsely : Prop := discoveryFullRow.holds Tryd.pinned (OpenSpec.ofChange discoveryFullWrong)

/- THE SECOND FORM. 'bulk': how many values and letters a reading holds, each counted each time it is reached (what is shared counts as often as it is met; a slice's spare places count too). A statement '..UptoSaid' is the law's where the arguments, and the package variables that the reading takes, are together of bulk at most 1048576: NARROWER than '..Said'. Prove '..Said' where nothing that the law and all that it calls make is longer than what came in: it says more and counts as full. Else prove '..UptoSaid'. A law counts once. -/
mutual
def uptoBulk {H : Type} : DataW H → Nat
  | .lit (.string bytes) => bytes.length + 1
  | .lit _ => 1
  | .nil => 1
  | .ptr d => uptoBulk d + 1
  | .slice elems spare => uptoBulkAll elems + uptoBulkAll spare + 1
  | .agg parts => uptoBulkAll parts + 1
  | .iface _ d => uptoBulk d + 1
  | .map entries => uptoBulkEntries entries + 1
  | .held _ => 1
def uptoBulkAll {H : Type} : List (DataW H) → Nat
  | [] => 0
  | d :: r => uptoBulk d + uptoBulkAll r
def uptoBulkEntries {H : Type} : List (Lit × DataW H) → Nat
  | [] => 0
  | x :: r => uptoBulkEntry x + uptoBulkEntries r
def uptoBulkEntry {H : Type} : Lit × DataW H → Nat
  | (.string bytes, d) => bytes.length + uptoBulk d + 1
  | (_, d) => uptoBulk d + 1
 end
def uptoSmall : (H : Type) → List (DataW H) → Bool := fun _ ds => decide (uptoBulkAll ds ≤ 1048576)
def OpenSpec.upto (s : _root_.Go.ChangeSpec) : _root_.Go.OpenSpec := { _root_.Go.OpenSpec.ofChange s with cond := some uptoSmall }

/-- 'capsulelaw40.DiscoveryEncodes', WHERE WHAT IT READS IS OF BULK AT MOST 1048576: true; the input reads as it did. -/
def discoveryEncodesUptoRow : OpenClaim := { program := "ytjcgdenkmmgmfaadoor", sum := "2e842d767acb16142593768c0a1ecd0fc0338d785fd389f6c9f8399a65721ca3", func := "capsule/capsulelaw40.DiscoveryEncodes", spec := "discoveryEncodes", inPlace := ["internal/abi.NoEscape", "internal/bytealg.MakeNoZero", "internal/bytealg.IndexByteString", "internal/bytealg.IndexString", "internal/bytealg.IndexByte", "internal/bytealg.Index"], unfollowed := true, recurses := true, named := ["unicode/utf8.first", "unicode/utf8.acceptRanges", "internal/bytealg.MaxLen"], apart := false, laid := [("unicode/utf8.acceptRanges", laid_unicode_utf8_acceptRanges), ("unicode/utf8.first", laid_unicode_utf8_first)], narrowed := true }
def DiscoveryEncodesUptoSaid : Prop := discoveryEncodesUptoRow.holds Tryd.pinned (OpenSpec.upto discoveryEncodesSpec)

/-- 'capsulelaw40.DiscoveryDecodes', WHERE WHAT IT READS IS OF BULK AT MOST 1048576: true; the input reads as it did. -/
def discoveryDecodesUptoRow : OpenClaim := { program := "ytjcgdenkmmgmfaadoor", sum := "2e842d767acb16142593768c0a1ecd0fc0338d785fd389f6c9f8399a65721ca3", func := "capsule/capsulelaw40.DiscoveryDecodes", spec := "discoveryDecodes", inPlace := ["internal/abi.NoEscape", "internal/bytealg.MakeNoZero", "internal/bytealg.IndexByteString", "internal/bytealg.IndexString", "internal/bytealg.IndexByte", "internal/bytealg.Index"], unfollowed := true, recurses := true, named := ["unicode/utf8.first", "unicode/utf8.acceptRanges", "internal/bytealg.MaxLen"], apart := false, laid := [("unicode/utf8.acceptRanges", laid_unicode_utf8_acceptRanges), ("unicode/utf8.first", laid_unicode_utf8_first)], narrowed := true }
def DiscoveryDecodesUptoSaid : Prop := discoveryDecodesUptoRow.holds Tryd.pinned (OpenSpec.upto discoveryDecodesSpec)

/-- 'capsulelaw40.DiscoveryBack', WHERE WHAT IT READS IS OF BULK AT MOST 1048576: true; the input reads as it did. -/
def discoveryBackUptoRow : OpenClaim := { program := "ytjcgdenkmmgmfaadoor", sum := "2e842d767acb16142593768c0a1ecd0fc0338d785fd389f6c9f8399a65721ca3", func := "capsule/capsulelaw40.DiscoveryBack", spec := "discoveryBack", inPlace := ["internal/abi.NoEscape", "internal/bytealg.MakeNoZero", "internal/bytealg.IndexByteString", "internal/bytealg.IndexString", "internal/bytealg.IndexByte", "internal/bytealg.Index"], unfollowed := true, recurses := true, named := ["unicode/utf8.first", "unicode/utf8.acceptRanges", "internal/bytealg.MaxLen"], apart := false, laid := [("unicode/utf8.acceptRanges", laid_unicode_utf8_acceptRanges), ("unicode/utf8.first", laid_unicode_utf8_first)], narrowed := true }
def DiscoveryBackUptoSaid : Prop := discoveryBackUptoRow.holds Tryd.pinned (OpenSpec.upto discoveryBackSpec)

/-- 'capsulelaw40.DiscoveryHides', WHERE WHAT IT READS IS OF BULK AT MOST 1048576: true; the input reads as it did. -/
def discoveryHidesUptoRow : OpenClaim := { program := "ytjcgdenkmmgmfaadoor", sum := "2e842d767acb16142593768c0a1ecd0fc0338d785fd389f6c9f8399a65721ca3", func := "capsule/capsulelaw40.DiscoveryHides", spec := "discoveryHides", inPlace := ["internal/abi.NoEscape", "internal/bytealg.MakeNoZero", "internal/bytealg.IndexByteString", "internal/bytealg.IndexString", "internal/bytealg.IndexByte", "internal/bytealg.Index"], unfollowed := true, recurses := true, named := ["unicode/utf8.first", "unicode/utf8.acceptRanges", "internal/bytealg.MaxLen"], apart := false, laid := [("unicode/utf8.acceptRanges", laid_unicode_utf8_acceptRanges), ("unicode/utf8.first", laid_unicode_utf8_first)], narrowed := true }
def DiscoveryHidesUptoSaid : Prop := discoveryHidesUptoRow.holds Tryd.pinned (OpenSpec.upto discoveryHidesSpec)

/-- 'capsulelaw40.DiscoveryFull', WHERE WHAT IT READS IS OF BULK AT MOST 1048576: true; the input reads as it did. -/
def discoveryFullUptoRow : OpenClaim := { program := "ytjcgdenkmmgmfaadoor", sum := "2e842d767acb16142593768c0a1ecd0fc0338d785fd389f6c9f8399a65721ca3", func := "capsule/capsulelaw40.DiscoveryFull", spec := "discoveryFull", inPlace := ["internal/abi.NoEscape", "internal/bytealg.MakeNoZero", "internal/bytealg.IndexByteString", "internal/bytealg.IndexString", "internal/bytealg.IndexByte", "internal/bytealg.Index"], unfollowed := true, recurses := true, named := ["unicode/utf8.first", "unicode/utf8.acceptRanges", "internal/bytealg.MaxLen"], apart := false, laid := [("unicode/utf8.acceptRanges", laid_unicode_utf8_acceptRanges), ("unicode/utf8.first", laid_unicode_utf8_first)], narrowed := true }
def DiscoveryFullUptoSaid : Prop := discoveryFullUptoRow.holds Tryd.pinned (OpenSpec.upto discoveryFullSpec)

end Rows
end Go.Proofs.YtjcgdenkmmgmfaaDoor
