/-
  NARROWER THAN 'FOR EVERY INPUT', by the rows' own cells (each row's printed sentence says how): LogpageSlices: laid · IdentifyReads: laid · LogpageErrors: laid · IdentifyBack: laid · LogpageNamespaces: laid · LogpageEntries: laid · LogpageEffects: laid · LogpageNotices: laid · LogpageZones: laid · LogpageHealths: laid.
  DERIVED. THE GIVEN ROWS OF THIS SEAT. 10 by the template 'for every input the law returns true; each argument reads behind the call as it read before'; 0 by the template 'total and deterministic' (their statements: YthnnopjakpjoeaaDoorTotals.lean).
  GIVEN WITH THE SEED: the statements are not yours to turn. If you find one false, say at which input.
  Laid BY PROGRAM, IN A SANDBOX (cutbox-rows.mjs): the forced cells as the released guide's own fill.sh prints them over the translation 603a584e43f9d423… (all of the seat's roots in one cut). By AI agents, Wed Nov 11 2026. No macro, syntax, notation, axiom, sorry.
-/
import Derived.Test.YthnnopjakpjoeaaDoorChecked
import GoSem.PinnedTables
import GoSem.Claim
import GoSem.ClaimJoined
import GoSem.ClaimMapViews
import Derived.JoinedTies
import Derived.KernelRfl
namespace Go.Proofs.YthnnopjakpjoeaaDoor
/- THE CELL 'sum', in the pinned program and in every row, IS THE sha256 OF THE DUMP (.gsa) THAT YthnnopjakpjoeaaDoorProg.lean LOADS. Nothing in Lean hashes anything: it is a label: what it is worth is what the hold of that sum in a sandbox is worth. -/
noncomputable def Tryd.pinned : Pinned := { name := "ythnnopjakpjoeaadoor", sum := "603a584e43f9d423d72efbc0fa74ed3089e9ed0cff6ebc2be63e1483f84d2111", checked := Tryd.checked }
namespace Rows
def none {H : Type} : Left H := { results := [], args := [] }

/- WHAT THE LISTED PACKAGE-LEVEL VARIABLES READ AS WHEN THE CALL BEGINS. Each datum BY PROGRAM (the guide's laid-datum.mjs) off the statement by which the dump's own 'gosem.cut.vars' lays the variable. In a bare row this is a premise. The card (YthnnopjakpjoeaaDoorCards.lean) ties it to the program's text. -/
def laid_unicode_utf8_acceptRanges {H : Type} : DataW H := .agg [.agg [.lit (.int .u8 128), .lit (.int .u8 191)], .agg [.lit (.int .u8 160), .lit (.int .u8 191)], .agg [.lit (.int .u8 128), .lit (.int .u8 159)], .agg [.lit (.int .u8 144), .lit (.int .u8 191)], .agg [.lit (.int .u8 128), .lit (.int .u8 143)], .agg [.lit (.int .u8 0), .lit (.int .u8 0)], .agg [.lit (.int .u8 0), .lit (.int .u8 0)], .agg [.lit (.int .u8 0), .lit (.int .u8 0)], .agg [.lit (.int .u8 0), .lit (.int .u8 0)], .agg [.lit (.int .u8 0), .lit (.int .u8 0)], .agg [.lit (.int .u8 0), .lit (.int .u8 0)], .agg [.lit (.int .u8 0), .lit (.int .u8 0)], .agg [.lit (.int .u8 0), .lit (.int .u8 0)], .agg [.lit (.int .u8 0), .lit (.int .u8 0)], .agg [.lit (.int .u8 0), .lit (.int .u8 0)], .agg [.lit (.int .u8 0), .lit (.int .u8 0)]]
def laid_unicode_White_Space {H : Type} : DataW H := .ptr (.agg [.slice [.agg [.lit (.int .u16 9), .lit (.int .u16 13), .lit (.int .u16 1)], .agg [.lit (.int .u16 32), .lit (.int .u16 133), .lit (.int .u16 101)], .agg [.lit (.int .u16 160), .lit (.int .u16 5760), .lit (.int .u16 5600)], .agg [.lit (.int .u16 8192), .lit (.int .u16 8202), .lit (.int .u16 1)], .agg [.lit (.int .u16 8232), .lit (.int .u16 8233), .lit (.int .u16 1)], .agg [.lit (.int .u16 8239), .lit (.int .u16 8287), .lit (.int .u16 48)], .agg [.lit (.int .u16 12288), .lit (.int .u16 12288), .lit (.int .u16 1)]] [], .nil, .lit (.int .i64 2)])
def laid_strings_asciiSpace {H : Type} : DataW H := .agg [.lit (.int .u8 0), .lit (.int .u8 0), .lit (.int .u8 0), .lit (.int .u8 0), .lit (.int .u8 0), .lit (.int .u8 0), .lit (.int .u8 0), .lit (.int .u8 0), .lit (.int .u8 0), .lit (.int .u8 1), .lit (.int .u8 1), .lit (.int .u8 1), .lit (.int .u8 1), .lit (.int .u8 1), .lit (.int .u8 0), .lit (.int .u8 0), .lit (.int .u8 0), .lit (.int .u8 0), .lit (.int .u8 0), .lit (.int .u8 0), .lit (.int .u8 0), .lit (.int .u8 0), .lit (.int .u8 0), .lit (.int .u8 0), .lit (.int .u8 0), .lit (.int .u8 0), .lit (.int .u8 0), .lit (.int .u8 0), .lit (.int .u8 0), .lit (.int .u8 0), .lit (.int .u8 0), .lit (.int .u8 0), .lit (.int .u8 1), .lit (.int .u8 0), .lit (.int .u8 0), .lit (.int .u8 0), .lit (.int .u8 0), .lit (.int .u8 0), .lit (.int .u8 0), .lit (.int .u8 0), .lit (.int .u8 0), .lit (.int .u8 0), .lit (.int .u8 0), .lit (.int .u8 0), .lit (.int .u8 0), .lit (.int .u8 0), .lit (.int .u8 0), .lit (.int .u8 0), .lit (.int .u8 0), .lit (.int .u8 0), .lit (.int .u8 0), .lit (.int .u8 0), .lit (.int .u8 0), .lit (.int .u8 0), .lit (.int .u8 0), .lit (.int .u8 0), .lit (.int .u8 0), .lit (.int .u8 0), .lit (.int .u8 0), .lit (.int .u8 0), .lit (.int .u8 0), .lit (.int .u8 0), .lit (.int .u8 0), .lit (.int .u8 0), .lit (.int .u8 0), .lit (.int .u8 0), .lit (.int .u8 0), .lit (.int .u8 0), .lit (.int .u8 0), .lit (.int .u8 0), .lit (.int .u8 0), .lit (.int .u8 0), .lit (.int .u8 0), .lit (.int .u8 0), .lit (.int .u8 0), .lit (.int .u8 0), .lit (.int .u8 0), .lit (.int .u8 0), .lit (.int .u8 0), .lit (.int .u8 0), .lit (.int .u8 0), .lit (.int .u8 0), .lit (.int .u8 0), .lit (.int .u8 0), .lit (.int .u8 0), .lit (.int .u8 0), .lit (.int .u8 0), .lit (.int .u8 0), .lit (.int .u8 0), .lit (.int .u8 0), .lit (.int .u8 0), .lit (.int .u8 0), .lit (.int .u8 0), .lit (.int .u8 0), .lit (.int .u8 0), .lit (.int .u8 0), .lit (.int .u8 0), .lit (.int .u8 0), .lit (.int .u8 0), .lit (.int .u8 0), .lit (.int .u8 0), .lit (.int .u8 0), .lit (.int .u8 0), .lit (.int .u8 0), .lit (.int .u8 0), .lit (.int .u8 0), .lit (.int .u8 0), .lit (.int .u8 0), .lit (.int .u8 0), .lit (.int .u8 0), .lit (.int .u8 0), .lit (.int .u8 0), .lit (.int .u8 0), .lit (.int .u8 0), .lit (.int .u8 0), .lit (.int .u8 0), .lit (.int .u8 0), .lit (.int .u8 0), .lit (.int .u8 0), .lit (.int .u8 0), .lit (.int .u8 0), .lit (.int .u8 0), .lit (.int .u8 0), .lit (.int .u8 0), .lit (.int .u8 0), .lit (.int .u8 0), .lit (.int .u8 0), .lit (.int .u8 0), .lit (.int .u8 0), .lit (.int .u8 0), .lit (.int .u8 0), .lit (.int .u8 0), .lit (.int .u8 0), .lit (.int .u8 0), .lit (.int .u8 0), .lit (.int .u8 0), .lit (.int .u8 0), .lit (.int .u8 0), .lit (.int .u8 0), .lit (.int .u8 0), .lit (.int .u8 0), .lit (.int .u8 0), .lit (.int .u8 0), .lit (.int .u8 0), .lit (.int .u8 0), .lit (.int .u8 0), .lit (.int .u8 0), .lit (.int .u8 0), .lit (.int .u8 0), .lit (.int .u8 0), .lit (.int .u8 0), .lit (.int .u8 0), .lit (.int .u8 0), .lit (.int .u8 0), .lit (.int .u8 0), .lit (.int .u8 0), .lit (.int .u8 0), .lit (.int .u8 0), .lit (.int .u8 0), .lit (.int .u8 0), .lit (.int .u8 0), .lit (.int .u8 0), .lit (.int .u8 0), .lit (.int .u8 0), .lit (.int .u8 0), .lit (.int .u8 0), .lit (.int .u8 0), .lit (.int .u8 0), .lit (.int .u8 0), .lit (.int .u8 0), .lit (.int .u8 0), .lit (.int .u8 0), .lit (.int .u8 0), .lit (.int .u8 0), .lit (.int .u8 0), .lit (.int .u8 0), .lit (.int .u8 0), .lit (.int .u8 0), .lit (.int .u8 0), .lit (.int .u8 0), .lit (.int .u8 0), .lit (.int .u8 0), .lit (.int .u8 0), .lit (.int .u8 0), .lit (.int .u8 0), .lit (.int .u8 0), .lit (.int .u8 0), .lit (.int .u8 0), .lit (.int .u8 0), .lit (.int .u8 0), .lit (.int .u8 0), .lit (.int .u8 0), .lit (.int .u8 0), .lit (.int .u8 0), .lit (.int .u8 0), .lit (.int .u8 0), .lit (.int .u8 0), .lit (.int .u8 0), .lit (.int .u8 0), .lit (.int .u8 0), .lit (.int .u8 0), .lit (.int .u8 0), .lit (.int .u8 0), .lit (.int .u8 0), .lit (.int .u8 0), .lit (.int .u8 0), .lit (.int .u8 0), .lit (.int .u8 0), .lit (.int .u8 0), .lit (.int .u8 0), .lit (.int .u8 0), .lit (.int .u8 0), .lit (.int .u8 0), .lit (.int .u8 0), .lit (.int .u8 0), .lit (.int .u8 0), .lit (.int .u8 0), .lit (.int .u8 0), .lit (.int .u8 0), .lit (.int .u8 0), .lit (.int .u8 0), .lit (.int .u8 0), .lit (.int .u8 0), .lit (.int .u8 0), .lit (.int .u8 0), .lit (.int .u8 0), .lit (.int .u8 0), .lit (.int .u8 0), .lit (.int .u8 0), .lit (.int .u8 0), .lit (.int .u8 0), .lit (.int .u8 0), .lit (.int .u8 0), .lit (.int .u8 0), .lit (.int .u8 0), .lit (.int .u8 0), .lit (.int .u8 0), .lit (.int .u8 0), .lit (.int .u8 0), .lit (.int .u8 0), .lit (.int .u8 0), .lit (.int .u8 0), .lit (.int .u8 0), .lit (.int .u8 0), .lit (.int .u8 0), .lit (.int .u8 0), .lit (.int .u8 0), .lit (.int .u8 0), .lit (.int .u8 0), .lit (.int .u8 0), .lit (.int .u8 0), .lit (.int .u8 0), .lit (.int .u8 0), .lit (.int .u8 0), .lit (.int .u8 0), .lit (.int .u8 0)]
/-- One of Go's own tables, pinned by name: the form's constant. -/
def laid_unicode_utf8_first : DataW Unit := Go.Pinned.utf8First

/-- 'capsulelaw23.LogpageSlices': WHATEVER THE INPUT: true; the input reads as it did. -/
def logpageSlicesSpec : ChangeSpec := { name := "logpageSlices", fn := fun _ => fun
  | [d1, d2, d3, d4] => { results := [.lit (.bool true)], args := [d1, d2, d3, d4] }
  | _ => none }
def logpageSlicesRow : OpenClaim := { program := "ythnnopjakpjoeaadoor", sum := "603a584e43f9d423d72efbc0fa74ed3089e9ed0cff6ebc2be63e1483f84d2111", func := "capsule/capsulelaw23.LogpageSlices", spec := "logpageSlices", inPlace := ["internal/abi.NoEscape", "internal/bytealg.MakeNoZero"], unfollowed := true, recurses := true, named := ["strings.asciiSpace", "unicode/utf8.first", "unicode/utf8.acceptRanges", "unicode.White_Space"], apart := false, laid := [("unicode/utf8.acceptRanges", laid_unicode_utf8_acceptRanges), ("unicode.White_Space", laid_unicode_White_Space), ("strings.asciiSpace", laid_strings_asciiSpace), ("unicode/utf8.first", laid_unicode_utf8_first)] }
def LogpageSlicesSaid : Prop := logpageSlicesRow.holds Tryd.pinned (OpenSpec.ofChange logpageSlicesSpec)

/-- ITS FALSE NEIGHBOUR: 'it returns false'. Refute it at one input. -/
def logpageSlicesWrong : ChangeSpec := { name := "logpageSlices", fn := fun _ => fun
  | [d1, d2, d3, d4] => { results := [.lit (.bool false)], args := [d1, d2, d3, d4] }
  | _ => none }
def LogpageSlicesWrongFalsely : Prop := logpageSlicesRow.holds Tryd.pinned (OpenSpec.ofChange logpageSlicesWrong)

/-- 'capsulelaw24.IdentifyReads': WHATEVER THE INPUT: true; the input reads as it did. -/
def identifyReadsSpec : ChangeSpec := { name := "identifyReads", fn := fun _ => fun
  | [d1, d2] => { results := [.lit (.bool true)], args := [d1, d2] }
  | _ => none }
def identifyReadsRow : OpenClaim := { program := "ythnnopjakpjoeaadoor", sum := "603a584e43f9d423d72efbc0fa74ed3089e9ed0cff6ebc2be63e1483f84d2111", func := "capsule/capsulelaw24.IdentifyReads", spec := "identifyReads", inPlace := ["internal/abi.NoEscape", "internal/bytealg.MakeNoZero", "internal/bytealg.IndexByteString", "internal/bytealg.IndexString"], unfollowed := true, recurses := true, named := ["unicode/utf8.first", "unicode/utf8.acceptRanges", "internal/bytealg.MaxLen"], apart := false, laid := [("unicode/utf8.acceptRanges", laid_unicode_utf8_acceptRanges), ("unicode/utf8.first", laid_unicode_utf8_first)] }
def IdentifyReadsSaid : Prop := identifyReadsRow.holds Tryd.pinned (OpenSpec.ofChange identifyReadsSpec)

/-- ITS FALSE NEIGHBOUR: 'it returns false'. Refute it at one input. -/
def identifyReadsWrong : ChangeSpec := { name := "identifyReads", fn := fun _ => fun
  | [d1, d2] => { results := [.lit (.bool false)], args := [d1, d2] }
  | _ => none }
def IdentifyReadsWrongFalsely : Prop := identifyReadsRow.holds Tryd.pinned (OpenSpec.ofChange identifyReadsWrong)

/-- 'capsulelaw23.LogpageErrors': WHATEVER THE INPUT: true; the input reads as it did. -/
def logpageErrorsSpec : ChangeSpec := { name := "logpageErrors", fn := fun _ => fun
  | [d1, d2] => { results := [.lit (.bool true)], args := [d1, d2] }
  | _ => none }
def logpageErrorsRow : OpenClaim := { program := "ythnnopjakpjoeaadoor", sum := "603a584e43f9d423d72efbc0fa74ed3089e9ed0cff6ebc2be63e1483f84d2111", func := "capsule/capsulelaw23.LogpageErrors", spec := "logpageErrors", inPlace := ["internal/abi.NoEscape", "internal/bytealg.MakeNoZero"], unfollowed := true, recurses := true, named := ["strings.asciiSpace", "unicode/utf8.first", "unicode/utf8.acceptRanges", "unicode.White_Space"], apart := false, laid := [("unicode/utf8.acceptRanges", laid_unicode_utf8_acceptRanges), ("unicode.White_Space", laid_unicode_White_Space), ("strings.asciiSpace", laid_strings_asciiSpace), ("unicode/utf8.first", laid_unicode_utf8_first)] }
def LogpageErrorsSaid : Prop := logpageErrorsRow.holds Tryd.pinned (OpenSpec.ofChange logpageErrorsSpec)

/-- ITS FALSE NEIGHBOUR: 'it returns false'. Refute it at one input. -/
def logpageErrorsWrong : ChangeSpec := { name := "logpageErrors", fn := fun _ => fun
  | [d1, d2] => { results := [.lit (.bool false)], args := [d1, d2] }
  | _ => none }
def LogpageErrorsWrongFalsely : Prop := logpageErrorsRow.holds Tryd.pinned (OpenSpec.ofChange logpageErrorsWrong)

/-- 'capsulelaw24.IdentifyBack': WHATEVER THE INPUT: true; the input reads as it did. -/
def identifyBackSpec : ChangeSpec := { name := "identifyBack", fn := fun _ => fun
  | [d1, d2, d3, d4, d5] => { results := [.lit (.bool true)], args := [d1, d2, d3, d4, d5] }
  | _ => none }
def identifyBackRow : OpenClaim := { program := "ythnnopjakpjoeaadoor", sum := "603a584e43f9d423d72efbc0fa74ed3089e9ed0cff6ebc2be63e1483f84d2111", func := "capsule/capsulelaw24.IdentifyBack", spec := "identifyBack", inPlace := ["internal/abi.NoEscape", "internal/bytealg.MakeNoZero", "internal/bytealg.IndexByteString", "internal/bytealg.IndexString"], unfollowed := true, recurses := true, named := ["unicode/utf8.first", "unicode/utf8.acceptRanges", "internal/bytealg.MaxLen"], apart := false, laid := [("unicode/utf8.acceptRanges", laid_unicode_utf8_acceptRanges), ("unicode/utf8.first", laid_unicode_utf8_first)] }
def IdentifyBackSaid : Prop := identifyBackRow.holds Tryd.pinned (OpenSpec.ofChange identifyBackSpec)

/-- ITS FALSE NEIGHBOUR: 'it returns false'. Refute it at one input. -/
def identifyBackWrong : ChangeSpec := { name := "identifyBack", fn := fun _ => fun
  | [d1, d2, d3, d4, d5] => { results := [.lit (.bool false)], args := [d1, d2, d3, d4, d5] }
  | _ => none }
def IdentifyBackWrongFalsely : Prop := identifyBackRow.holds Tryd.pinned (OpenSpec.ofChange identifyBackWrong)

/-- 'capsulelaw23.LogpageNamespaces': WHATEVER THE INPUT: true; the input reads as it did. -/
def logpageNamespacesSpec : ChangeSpec := { name := "logpageNamespaces", fn := fun _ => fun
  | [d1, d2] => { results := [.lit (.bool true)], args := [d1, d2] }
  | _ => none }
def logpageNamespacesRow : OpenClaim := { program := "ythnnopjakpjoeaadoor", sum := "603a584e43f9d423d72efbc0fa74ed3089e9ed0cff6ebc2be63e1483f84d2111", func := "capsule/capsulelaw23.LogpageNamespaces", spec := "logpageNamespaces", inPlace := ["internal/abi.NoEscape", "internal/bytealg.MakeNoZero"], unfollowed := true, recurses := true, named := ["strings.asciiSpace", "unicode/utf8.first", "unicode/utf8.acceptRanges", "unicode.White_Space"], apart := false, laid := [("unicode/utf8.acceptRanges", laid_unicode_utf8_acceptRanges), ("unicode.White_Space", laid_unicode_White_Space), ("strings.asciiSpace", laid_strings_asciiSpace), ("unicode/utf8.first", laid_unicode_utf8_first)] }
def LogpageNamespacesSaid : Prop := logpageNamespacesRow.holds Tryd.pinned (OpenSpec.ofChange logpageNamespacesSpec)

/-- ITS FALSE NEIGHBOUR: 'it returns false'. Refute it at one input. -/
def logpageNamespacesWrong : ChangeSpec := { name := "logpageNamespaces", fn := fun _ => fun
  | [d1, d2] => { results := [.lit (.bool false)], args := [d1, d2] }
  | _ => none }
def LogpageNamespacesWrongFalsely : Prop := logpageNamespacesRow.holds Tryd.pinned (OpenSpec.ofChange logpageNamespacesWrong)

/-- 'capsulelaw23.LogpageEntries': WHATEVER THE INPUT: true; the input reads as it did. -/
def logpageEntriesSpec : ChangeSpec := { name := "logpageEntries", fn := fun _ => fun
  | [d1, d2] => { results := [.lit (.bool true)], args := [d1, d2] }
  | _ => none }
def logpageEntriesRow : OpenClaim := { program := "ythnnopjakpjoeaadoor", sum := "603a584e43f9d423d72efbc0fa74ed3089e9ed0cff6ebc2be63e1483f84d2111", func := "capsule/capsulelaw23.LogpageEntries", spec := "logpageEntries", inPlace := ["internal/abi.NoEscape", "internal/bytealg.MakeNoZero"], unfollowed := true, recurses := true, named := ["strings.asciiSpace", "unicode/utf8.first", "unicode/utf8.acceptRanges", "unicode.White_Space"], apart := false, laid := [("unicode/utf8.acceptRanges", laid_unicode_utf8_acceptRanges), ("unicode.White_Space", laid_unicode_White_Space), ("strings.asciiSpace", laid_strings_asciiSpace), ("unicode/utf8.first", laid_unicode_utf8_first)] }
def LogpageEntriesSaid : Prop := logpageEntriesRow.holds Tryd.pinned (OpenSpec.ofChange logpageEntriesSpec)

/-- ITS FALSE NEIGHBOUR: 'it returns false'. Refute it at one input. -/
def logpageEntriesWrong : ChangeSpec := { name := "logpageEntries", fn := fun _ => fun
  | [d1, d2] => { results := [.lit (.bool false)], args := [d1, d2] }
  | _ => none }
def LogpageEntriesWrongFalsely : Prop := logpageEntriesRow.holds Tryd.pinned (OpenSpec.ofChange logpageEntriesWrong)

/-- 'capsulelaw23.LogpageEffects': WHATEVER THE INPUT: true; the input reads as it did. -/
def logpageEffectsSpec : ChangeSpec := { name := "logpageEffects", fn := fun _ => fun
  | [d1, d2, d3] => { results := [.lit (.bool true)], args := [d1, d2, d3] }
  | _ => none }
def logpageEffectsRow : OpenClaim := { program := "ythnnopjakpjoeaadoor", sum := "603a584e43f9d423d72efbc0fa74ed3089e9ed0cff6ebc2be63e1483f84d2111", func := "capsule/capsulelaw23.LogpageEffects", spec := "logpageEffects", inPlace := ["internal/abi.NoEscape", "internal/bytealg.MakeNoZero"], unfollowed := true, recurses := true, named := ["strings.asciiSpace", "unicode/utf8.first", "unicode/utf8.acceptRanges", "unicode.White_Space"], apart := false, laid := [("unicode/utf8.acceptRanges", laid_unicode_utf8_acceptRanges), ("unicode.White_Space", laid_unicode_White_Space), ("strings.asciiSpace", laid_strings_asciiSpace), ("unicode/utf8.first", laid_unicode_utf8_first)] }
def LogpageEffectsSaid : Prop := logpageEffectsRow.holds Tryd.pinned (OpenSpec.ofChange logpageEffectsSpec)

/-- ITS FALSE NEIGHBOUR: 'it returns false'. Refute it at one input. -/
def logpageEffectsWrong : ChangeSpec := { name := "logpageEffects", fn := fun _ => fun
  | [d1, d2, d3] => { results := [.lit (.bool false)], args := [d1, d2, d3] }
  | _ => none }
def LogpageEffectsWrongFalsely : Prop := logpageEffectsRow.holds Tryd.pinned (OpenSpec.ofChange logpageEffectsWrong)

/-- 'capsulelaw23.LogpageNotices': WHATEVER THE INPUT: true; the input reads as it did. -/
def logpageNoticesSpec : ChangeSpec := { name := "logpageNotices", fn := fun _ => fun
  | [d1, d2] => { results := [.lit (.bool true)], args := [d1, d2] }
  | _ => none }
def logpageNoticesRow : OpenClaim := { program := "ythnnopjakpjoeaadoor", sum := "603a584e43f9d423d72efbc0fa74ed3089e9ed0cff6ebc2be63e1483f84d2111", func := "capsule/capsulelaw23.LogpageNotices", spec := "logpageNotices", inPlace := ["internal/abi.NoEscape", "internal/bytealg.MakeNoZero"], unfollowed := true, recurses := true, named := ["strings.asciiSpace", "unicode/utf8.first", "unicode/utf8.acceptRanges", "unicode.White_Space"], apart := false, laid := [("unicode/utf8.acceptRanges", laid_unicode_utf8_acceptRanges), ("unicode.White_Space", laid_unicode_White_Space), ("strings.asciiSpace", laid_strings_asciiSpace), ("unicode/utf8.first", laid_unicode_utf8_first)] }
def LogpageNoticesSaid : Prop := logpageNoticesRow.holds Tryd.pinned (OpenSpec.ofChange logpageNoticesSpec)

/-- ITS FALSE NEIGHBOUR: 'it returns false'. Refute it at one input. -/
def logpageNoticesWrong : ChangeSpec := { name := "logpageNotices", fn := fun _ => fun
  | [d1, d2] => { results := [.lit (.bool false)], args := [d1, d2] }
  | _ => none }
def LogpageNoticesWrongFalsely : Prop := logpageNoticesRow.holds Tryd.pinned (OpenSpec.ofChange logpageNoticesWrong)

/-- 'capsulelaw23.LogpageZones': WHATEVER THE INPUT: true; the input reads as it did. -/
def logpageZonesSpec : ChangeSpec := { name := "logpageZones", fn := fun _ => fun
  | [d1, d2] => { results := [.lit (.bool true)], args := [d1, d2] }
  | _ => none }
def logpageZonesRow : OpenClaim := { program := "ythnnopjakpjoeaadoor", sum := "603a584e43f9d423d72efbc0fa74ed3089e9ed0cff6ebc2be63e1483f84d2111", func := "capsule/capsulelaw23.LogpageZones", spec := "logpageZones", inPlace := ["internal/abi.NoEscape", "internal/bytealg.MakeNoZero"], unfollowed := true, recurses := true, named := ["strings.asciiSpace", "unicode/utf8.first", "unicode/utf8.acceptRanges", "unicode.White_Space"], apart := false, laid := [("unicode/utf8.acceptRanges", laid_unicode_utf8_acceptRanges), ("unicode.White_Space", laid_unicode_White_Space), ("strings.asciiSpace", laid_strings_asciiSpace), ("unicode/utf8.first", laid_unicode_utf8_first)] }
def LogpageZonesSaid : Prop := logpageZonesRow.holds Tryd.pinned (OpenSpec.ofChange logpageZonesSpec)

/-- ITS FALSE NEIGHBOUR: 'it returns false'. Refute it at one input. -/
def logpageZonesWrong : ChangeSpec := { name := "logpageZones", fn := fun _ => fun
  | [d1, d2] => { results := [.lit (.bool false)], args := [d1, d2] }
  | _ => none }
def LogpageZonesWrongFalsely : Prop := logpageZonesRow.holds Tryd.pinned (OpenSpec.ofChange logpageZonesWrong)

/-- 'capsulelaw23.LogpageHealths': WHATEVER THE INPUT: true; the input reads as it did. -/
def logpageHealthsSpec : ChangeSpec := { name := "logpageHealths", fn := fun _ => fun
  | [d1, d2] => { results := [.lit (.bool true)], args := [d1, d2] }
  | _ => none }
def logpageHealthsRow : OpenClaim := { program := "ythnnopjakpjoeaadoor", sum := "603a584e43f9d423d72efbc0fa74ed3089e9ed0cff6ebc2be63e1483f84d2111", func := "capsule/capsulelaw23.LogpageHealths", spec := "logpageHealths", inPlace := ["internal/abi.NoEscape", "internal/bytealg.MakeNoZero"], unfollowed := true, recurses := true, named := ["strings.asciiSpace", "unicode/utf8.first", "unicode/utf8.acceptRanges", "unicode.White_Space"], apart := false, laid := [("unicode/utf8.acceptRanges", laid_unicode_utf8_acceptRanges), ("unicode.White_Space", laid_unicode_White_Space), ("strings.asciiSpace", laid_strings_asciiSpace), ("unicode/utf8.first", laid_unicode_utf8_first)] }
def LogpageHealthsSaid : Prop := logpageHealthsRow.holds Tryd.pinned (OpenSpec.ofChange logpageHealthsSpec)

/-- ITS FALSE NEIGHBOUR: 'it returns false'. Refute it at one input. -/
def logpageHealthsWrong : ChangeSpec := { name := "logpageHealths", fn := fun _ => fun
  | [d1, d2] => { results := [.lit (.bool false)], args := [d1, d2] }
  | _ => none }
def LogpageHealthsWrongFalsely : Prop := logpageHealthsRow.holds Tryd.pinned (OpenSpec.ofChange logpageHealthsWrong)

/- THE SECOND FORM. 'bulk': how many values and letters a reading holds, each counted each time it is reached (what is shared counts as often as it is met; a slice's spare places count too). A statement '..UptoSaid' is the law's where the arguments, and the package variables that the reading takes, are together of bulk at most 1048576: NARROWER than '..Said'. Prove '..Said' where nothing that the law and all that it calls make is longer than what came in: it says more and counts as full. Else prove '..UptoSaid'. A law counts once. -/
mutual
def uptoBulk {H : Type} : DataW H → Nat
  | .lit (.string bytes) => bytes.length + 1
  | .lit _ => 1
  | .nil => 1
  | .ptr d => uptoBulk d + 1
  | .slice elems spare => uptoBulkAll elems + uptoBulkAll spare + 1
  | .agg parts => uptoBulkAll parts + 1
  | .iface _ d => uptoBulk d + 1
  | .map entries => uptoBulkEntries entries + 1
  | .held _ => 1
def uptoBulkAll {H : Type} : List (DataW H) → Nat
  | [] => 0
  | d :: r => uptoBulk d + uptoBulkAll r
def uptoBulkEntries {H : Type} : List (Lit × DataW H) → Nat
  | [] => 0
  | x :: r => uptoBulkEntry x + uptoBulkEntries r
def uptoBulkEntry {H : Type} : Lit × DataW H → Nat
  | (.string bytes, d) => bytes.length + uptoBulk d + 1
  | (_, d) => uptoBulk d + 1
 end
def uptoSmall : (H : Type) → List (DataW H) → Bool := fun _ ds => decide (uptoBulkAll ds ≤ 1048576)
def OpenSpec.upto (s : _root_.Go.ChangeSpec) : _root_.Go.OpenSpec := { _root_.Go.OpenSpec.ofChange s with cond := some uptoSmall }

/-- 'capsulelaw23.LogpageSlices', WHERE WHAT IT READS IS OF BULK AT MOST 1048576: true; the input reads as it did. -/
def logpageSlicesUptoRow : OpenClaim := { program := "ythnnopjakpjoeaadoor", sum := "603a584e43f9d423d72efbc0fa74ed3089e9ed0cff6ebc2be63e1483f84d2111", func := "capsule/capsulelaw23.LogpageSlices", spec := "logpageSlices", inPlace := ["internal/abi.NoEscape", "internal/bytealg.MakeNoZero"], unfollowed := true, recurses := true, named := ["strings.asciiSpace", "unicode/utf8.first", "unicode/utf8.acceptRanges", "unicode.White_Space"], apart := false, laid := [("unicode/utf8.acceptRanges", laid_unicode_utf8_acceptRanges), ("unicode.White_Space", laid_unicode_White_Space), ("strings.asciiSpace", laid_strings_asciiSpace), ("unicode/utf8.first", laid_unicode_utf8_first)], narrowed := true }
def LogpageSlicesUptoSaid : Prop := logpageSlicesUptoRow.holds Tryd.pinned (OpenSpec.upto logpageSlicesSpec)

/-- 'capsulelaw24.IdentifyReads', WHERE WHAT IT READS IS OF BULK AT MOST 1048576: true; the input reads as it did. -/
def identifyReadsUptoRow : OpenClaim := { program := "ythnnopjakpjoeaadoor", sum := "603a584e43f9d423d72efbc0fa74ed3089e9ed0cff6ebc2be63e1483f84d2111", func := "capsule/capsulelaw24.IdentifyReads", spec := "identifyReads", inPlace := ["internal/abi.NoEscape", "internal/bytealg.MakeNoZero", "internal/bytealg.IndexByteString", "internal/bytealg.IndexString"], unfollowed := true, recurses := true, named := ["unicode/utf8.first", "unicode/utf8.acceptRanges", "internal/bytealg.MaxLen"], apart := false, laid := [("unicode/utf8.acceptRanges", laid_unicode_utf8_acceptRanges), ("unicode/utf8.first", laid_unicode_utf8_first)], narrowed := true }
def IdentifyReadsUptoSaid : Prop := identifyReadsUptoRow.holds Tryd.pinned (OpenSpec.upto identifyReadsSpec)

/-- 'capsulelaw23.LogpageErrors', WHERE WHAT IT READS IS OF BULK AT MOST 1048576: true; the input reads as it did. -/
def logpageErrorsUptoRow : OpenClaim := { program := "ythnnopjakpjoeaadoor", sum := "603a584e43f9d423d72efbc0fa74ed3089e9ed0cff6ebc2be63e1483f84d2111", func := "capsule/capsulelaw23.LogpageErrors", spec := "logpageErrors", inPlace := ["internal/abi.NoEscape", "internal/bytealg.MakeNoZero"], unfollowed := true, recurses := true, named := ["strings.asciiSpace", "unicode/utf8.first", "unicode/utf8.acceptRanges", "unicode.White_Space"], apart := false, laid := [("unicode/utf8.acceptRanges", laid_unicode_utf8_acceptRanges), ("unicode.White_Space", laid_unicode_White_Space), ("strings.asciiSpace", laid_strings_asciiSpace), ("unicode/utf8.first", laid_unicode_utf8_first)], narrowed := true }
def LogpageErrorsUptoSaid : Prop := logpageErrorsUptoRow.holds Tryd.pinned (OpenSpec.upto logpageErrorsSpec)

/-- 'capsulelaw24.IdentifyBack', WHERE WHAT IT READS IS OF BULK AT MOST 1048576: true; the input reads as it did. -/
def identifyBackUptoRow : OpenClaim := { program := "ythnnopjakpjoeaadoor", sum := "603a584e43f9d423d72efbc0fa74ed3089e9ed0cff6ebc2be63e1483f84d2111", func := "capsule/capsulelaw24.IdentifyBack", spec := "identifyBack", inPlace := ["internal/abi.NoEscape", "internal/bytealg.MakeNoZero", "internal/bytealg.IndexByteString", "internal/bytealg.IndexString"], unfollowed := true, recurses := true, named := ["unicode/utf8.first", "unicode/utf8.acceptRanges", "internal/bytealg.MaxLen"], apart := false, laid := [("unicode/utf8.acceptRanges", laid_unicode_utf8_acceptRanges), ("unicode/utf8.first", laid_unicode_utf8_first)], narrowed := true }
def IdentifyBackUptoSaid : Prop := identifyBackUptoRow.holds Tryd.pinned (OpenSpec.upto identifyBackSpec)

/-- 'capsulelaw23.LogpageNamespaces', WHERE WHAT IT READS IS OF BULK AT MOST 1048576: true; the input reads as it did. -/
def logpageNamespacesUptoRow : OpenClaim := { program := "ythnnopjakpjoeaadoor", sum := "603a584e43f9d423d72efbc0fa74ed3089e9ed0cff6ebc2be63e1483f84d2111", func := "capsule/capsulelaw23.LogpageNamespaces", spec := "logpageNamespaces", inPlace := ["internal/abi.NoEscape", "internal/bytealg.MakeNoZero"], unfollowed := true, recurses := true, named := ["strings.asciiSpace", "unicode/utf8.first", "unicode/utf8.acceptRanges", "unicode.White_Space"], apart := false, laid := [("unicode/utf8.acceptRanges", laid_unicode_utf8_acceptRanges), ("unicode.White_Space", laid_unicode_White_Space), ("strings.asciiSpace", laid_strings_asciiSpace), ("unicode/utf8.first", laid_unicode_utf8_first)], narrowed := true }
def LogpageNamespacesUptoSaid : Prop := logpageNamespacesUptoRow.holds Tryd.pinned (OpenSpec.upto logpageNamespacesSpec)

/-- 'capsulelaw23.LogpageEntries', WHERE WHAT IT READS IS OF BULK AT MOST 1048576: true; the input reads as it did. -/
def logpageEntriesUptoRow : OpenClaim := { program := "ythnnopjakpjoeaadoor", sum := "603a584e43f9d423d72efbc0fa74ed3089e9ed0cff6ebc2be63e1483f84d2111", func := "capsule/capsulelaw23.LogpageEntries", spec := "logpageEntries", inPlace := ["internal/abi.NoEscape", "internal/bytealg.MakeNoZero"], unfollowed := true, recurses := true, named := ["strings.asciiSpace", "unicode/utf8.first", "unicode/utf8.acceptRanges", "unicode.White_Space"], apart := false, laid := [("unicode/utf8.acceptRanges", laid_unicode_utf8_acceptRanges), ("unicode.White_Space", laid_unicode_White_Space), ("strings.asciiSpace", laid_strings_asciiSpace), ("unicode/utf8.first", laid_unicode_utf8_first)], narrowed := true }
def LogpageEntriesUptoSaid : Prop := logpageEntriesUptoRow.holds Tryd.pinned (OpenSpec.upto logpageEntriesSpec)

/-- 'capsulelaw23.LogpageEffects', WHERE WHAT IT READS IS OF BULK AT MOST 1048576: true; the input reads as it did. -/
def logpageEffectsUptoRow : OpenClaim := { program := "ythnnopjakpjoeaadoor", sum := "603a584e43f9d423d72efbc0fa74ed3089e9ed0cff6ebc2be63e1483f84d2111", func := "capsule/capsulelaw23.LogpageEffects", spec := "logpageEffects", inPlace := ["internal/abi.NoEscape", "internal/bytealg.MakeNoZero"], unfollowed := true, recurses := true, named := ["strings.asciiSpace", "unicode/utf8.first", "unicode/utf8.acceptRanges", "unicode.White_Space"], apart := false, laid := [("unicode/utf8.acceptRanges", laid_unicode_utf8_acceptRanges), ("unicode.White_Space", laid_unicode_White_Space), ("strings.asciiSpace", laid_strings_asciiSpace), ("unicode/utf8.first", laid_unicode_utf8_first)], narrowed := true }
def LogpageEffectsUptoSaid : Prop := logpageEffectsUptoRow.holds Tryd.pinned (OpenSpec.upto logpageEffectsSpec)

/-- 'capsulelaw23.LogpageNotices', WHERE WHAT IT READS IS OF BULK AT MOST 1048576: true; the input reads as it did. -/
def logpageNoticesUptoRow : OpenClaim := { program := "ythnnopjakpjoeaadoor", sum := "603a584e43f9d423d72efbc0fa74ed3089e9ed0cff6ebc2be63e1483f84d2111", func := "capsule/capsulelaw23.LogpageNotices", spec := "logpageNotices", inPlace := ["internal/abi.NoEscape", "internal/bytealg.MakeNoZero"], unfollowed := true, recurses := true, named := ["strings.asciiSpace", "unicode/utf8.first", "unicode/utf8.acceptRanges", "unicode.White_Space"], apart := false, laid := [("unicode/utf8.acceptRanges", laid_unicode_utf8_acceptRanges), ("unicode.White_Space", laid_unicode_White_Space), ("strings.asciiSpace", laid_strings_asciiSpace), ("unicode/utf8.first", laid_unicode_utf8_first)], narrowed := true }
def LogpageNoticesUptoSaid : Prop := logpageNoticesUptoRow.holds Tryd.pinned (OpenSpec.upto logpageNoticesSpec)

/-- 'capsulelaw23.LogpageZones', WHERE WHAT IT READS IS OF BULK AT MOST 1048576: true; the input reads as it did. -/
def logpageZonesUptoRow : OpenClaim := { program := "ythnnopjakpjoeaadoor", sum := "603a584e43f9d423d72efbc0fa74ed3089e9ed0cff6ebc2be63e1483f84d2111", func := "capsule/capsulelaw23.LogpageZones", spec := "logpageZones", inPlace := ["internal/abi.NoEscape", "internal/bytealg.MakeNoZero"], unfollowed := true, recurses := true, named := ["strings.asciiSpace", "unicode/utf8.first", "unicode/utf8.acceptRanges", "unicode.White_Space"], apart := false, laid := [("unicode/utf8.acceptRanges", laid_unicode_utf8_acceptRanges), ("unicode.White_Space", laid_unicode_White_Space), ("strings.asciiSpace", laid_strings_asciiSpace), ("unicode/utf8.first", laid_unicode_utf8_first)], narrowed := true }
def LogpageZonesUptoSaid : Prop := logpageZonesUptoRow.holds Tryd.pinned (OpenSpec.upto logpageZonesSpec)

/-- 'capsulelaw23.LogpageHealths', WHERE WHAT IT READS IS OF BULK AT MOST 1048576: true; the input reads as it did. -/
def logpageHealthsUptoRow : OpenClaim := { program := "ythnnopjakpjoeaadoor", sum := "603a584e43f9d423d72efbc0fa74ed3089e9ed0cff6ebc2be63e1483f84d2111", func := "capsule/capsulelaw23.LogpageHealths", spec := "logpageHealths", inPlace := ["internal/abi.NoEscape", "internal/bytealg.MakeNoZero"], unfollowed := true, recurses := true, named := ["strings.asciiSpace", "unicode/utf8.first", "unicode/utf8.acceptRanges", "unicode.White_Space"], apart := false, laid := [("unicode/utf8.acceptRanges", laid_unicode_utf8_acceptRanges), ("unicode.White_Space", laid_unicode_White_Space), ("strings.asciiSpace", laid_strings_asciiSpace), ("unicode/utf8.first", laid_unicode_utf8_first)], narrowed := true }
def LogpageHealthsUptoSaid : Prop := logpageHealthsUptoRow.holds Tryd.pinned (OpenSpec.upto logpageHealthsSpec)

end Rows
end Go.Proofs.YthnnopjakpjoeaaDoor
