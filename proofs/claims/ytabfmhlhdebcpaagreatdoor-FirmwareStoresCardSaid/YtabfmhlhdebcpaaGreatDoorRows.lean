/-
  NARROWER THAN 'FOR EVERY INPUT', by the rows' own cells (each row's printed sentence says how): FirmwareRuns: laid · FirmwareImages: laid · FirmwareStores: laid · FirmwareKeeps: laid · FirmwarePieces: laid · FirmwareCopies: laid · FirmwareNil: laid.
  DERIVED. THE GIVEN ROWS OF THIS SEAT. 7 by the template 'for every input the law returns true; each argument reads behind the call as it read before'; 0 by the template 'total and deterministic' (their statements: YtabfmhlhdebcpaaGreatDoorTotals.lean).
  GIVEN WITH THE SEED: the statements are not yours to turn. If you find one false, say at which input.
  Laid BY PROGRAM, IN A SANDBOX (cutbox-rows.mjs): the forced cells as the released guide's own fill.sh prints them over the translation f79c69475c9c9d6f… (all of the seat's roots in one cut). By AI agents, Wed Nov 11 2026. No macro, syntax, notation, axiom, sorry.
-/
import Derived.Test.YtabfmhlhdebcpaaGreatDoorChecked
import GoSem.PinnedTables
import GoSem.Claim
import GoSem.ClaimJoined
import GoSem.ClaimMapViews
import Derived.JoinedTies
import Derived.KernelRfl
namespace Go.Proofs.YtabfmhlhdebcpaaGreatDoor
/- THE CELL 'sum', in the pinned program and in every row, IS THE sha256 OF THE DUMP (.gsa) THAT YtabfmhlhdebcpaaGreatDoorProg.lean LOADS. Nothing in Lean hashes anything: it is a label: what it is worth is what the hold of that sum in a sandbox is worth. -/
noncomputable def Tryz.pinned : Pinned := { name := "ytabfmhlhdebcpaagreatdoor", sum := "f79c69475c9c9d6f8a7bd2e94ffa711d8729959daa77f92b4e4bec00b09aadd4", checked := Tryz.checked }
namespace Rows
def none {H : Type} : Left H := { results := [], args := [] }

/- WHAT THE LISTED PACKAGE-LEVEL VARIABLES READ AS WHEN THE CALL BEGINS. Each datum BY PROGRAM (the guide's laid-datum.mjs) off the statement by which the dump's own 'gosem.cut.vars' lays the variable. In a bare row this is a premise. The card (YtabfmhlhdebcpaaGreatDoorCards.lean) ties it to the program's text. -/
def laid_unicode_utf8_acceptRanges {H : Type} : DataW H := .agg [.agg [.lit (.int .u8 128), .lit (.int .u8 191)], .agg [.lit (.int .u8 160), .lit (.int .u8 191)], .agg [.lit (.int .u8 128), .lit (.int .u8 159)], .agg [.lit (.int .u8 144), .lit (.int .u8 191)], .agg [.lit (.int .u8 128), .lit (.int .u8 143)], .agg [.lit (.int .u8 0), .lit (.int .u8 0)], .agg [.lit (.int .u8 0), .lit (.int .u8 0)], .agg [.lit (.int .u8 0), .lit (.int .u8 0)], .agg [.lit (.int .u8 0), .lit (.int .u8 0)], .agg [.lit (.int .u8 0), .lit (.int .u8 0)], .agg [.lit (.int .u8 0), .lit (.int .u8 0)], .agg [.lit (.int .u8 0), .lit (.int .u8 0)], .agg [.lit (.int .u8 0), .lit (.int .u8 0)], .agg [.lit (.int .u8 0), .lit (.int .u8 0)], .agg [.lit (.int .u8 0), .lit (.int .u8 0)], .agg [.lit (.int .u8 0), .lit (.int .u8 0)]]
/-- One of Go's own tables, pinned by name: the form's constant. -/
def laid_unicode_utf8_first : DataW Unit := Go.Pinned.utf8First

/-- 'capsulelaw26.FirmwareRuns': WHATEVER THE INPUT: true; the input reads as it did. -/
def firmwareRunsSpec : ChangeSpec := { name := "firmwareRuns", fn := fun _ => fun
  | [d1, d2] => { results := [.lit (.bool true)], args := [d1, d2] }
  | _ => none }
def firmwareRunsRow : OpenClaim := { program := "ytabfmhlhdebcpaagreatdoor", sum := "f79c69475c9c9d6f8a7bd2e94ffa711d8729959daa77f92b4e4bec00b09aadd4", func := "capsule/capsulelaw26.FirmwareRuns", spec := "firmwareRuns", inPlace := ["internal/abi.NoEscape", "internal/bytealg.MakeNoZero", "internal/bytealg.IndexByteString", "internal/bytealg.IndexString", "slices.overlaps[capsule/firmware.piece]"], unfollowed := true, recurses := true, named := ["unicode/utf8.first", "unicode/utf8.acceptRanges", "internal/bytealg.MaxLen"], apart := false, laid := [("unicode/utf8.acceptRanges", laid_unicode_utf8_acceptRanges), ("unicode/utf8.first", laid_unicode_utf8_first)] }
def FirmwareRunsSaid : Prop := firmwareRunsRow.holds Tryz.pinned (OpenSpec.ofChange firmwareRunsSpec)

/-- ITS FALSE NEIGHBOUR: 'it returns false'. Refute it at one input. -/
def firmwareRunsWrong : ChangeSpec := { name := "firmwareRuns", fn := fun _ => fun
  | [d1, d2] => { results := [.lit (.bool false)], args := [d1, d2] }
  | _ => none }
def FirmwareRunsWrongFalsely : Prop := firmwareRunsRow.holds Tryz.pinned (OpenSpec.ofChange firmwareRunsWrong)

/-- 'capsulelaw26.FirmwareImages': WHATEVER THE INPUT: true; the input reads as it did. -/
def firmwareImagesSpec : ChangeSpec := { name := "firmwareImages", fn := fun _ => fun
  | [d1, d2] => { results := [.lit (.bool true)], args := [d1, d2] }
  | _ => none }
def firmwareImagesRow : OpenClaim := { program := "ytabfmhlhdebcpaagreatdoor", sum := "f79c69475c9c9d6f8a7bd2e94ffa711d8729959daa77f92b4e4bec00b09aadd4", func := "capsule/capsulelaw26.FirmwareImages", spec := "firmwareImages", inPlace := ["internal/abi.NoEscape", "internal/bytealg.MakeNoZero", "internal/bytealg.IndexByteString", "internal/bytealg.IndexString", "slices.overlaps[capsule/firmware.piece]"], unfollowed := true, recurses := true, named := ["unicode/utf8.first", "unicode/utf8.acceptRanges", "internal/bytealg.MaxLen"], apart := false, laid := [("unicode/utf8.acceptRanges", laid_unicode_utf8_acceptRanges), ("unicode/utf8.first", laid_unicode_utf8_first)] }
def FirmwareImagesSaid : Prop := firmwareImagesRow.holds Tryz.pinned (OpenSpec.ofChange firmwareImagesSpec)

/-- ITS FALSE NEIGHBOUR: 'it returns false'. Refute it at one input. -/
def firmwareImagesWrong : ChangeSpec := { name := "firmwareImages", fn := fun _ => fun
  | [d1, d2] => { results := [.lit (.bool false)], args := [d1, d2] }
  | _ => none }
def FirmwareImagesWrongFalsely : Prop := firmwareImagesRow.holds Tryz.pinned (OpenSpec.ofChange firmwareImagesWrong)

/-- 'capsulelaw26.FirmwareStores': WHATEVER THE INPUT: true; the input reads as it did. -/
def firmwareStoresSpec : ChangeSpec := { name := "firmwareStores", fn := fun _ => fun
  | [d1, d2, d3, d4, d5] => { results := [.lit (.bool true)], args := [d1, d2, d3, d4, d5] }
  | _ => none }
def firmwareStoresRow : OpenClaim := { program := "ytabfmhlhdebcpaagreatdoor", sum := "f79c69475c9c9d6f8a7bd2e94ffa711d8729959daa77f92b4e4bec00b09aadd4", func := "capsule/capsulelaw26.FirmwareStores", spec := "firmwareStores", inPlace := ["internal/abi.NoEscape", "internal/bytealg.MakeNoZero", "internal/bytealg.IndexByteString", "internal/bytealg.IndexString", "slices.overlaps[capsule/firmware.piece]"], unfollowed := true, recurses := true, named := ["unicode/utf8.first", "unicode/utf8.acceptRanges", "internal/bytealg.MaxLen"], apart := false, laid := [("unicode/utf8.acceptRanges", laid_unicode_utf8_acceptRanges), ("unicode/utf8.first", laid_unicode_utf8_first)] }
def FirmwareStoresSaid : Prop := firmwareStoresRow.holds Tryz.pinned (OpenSpec.ofChange firmwareStoresSpec)

/-- ITS FALSE NEIGHBOUR: 'it returns false'. Refute it at one input. -/
def firmwareStoresWrong : ChangeSpec := { name := "firmwareStores", fn := fun _ => fun
  | [d1, d2, d3, d4, d5] => { results := [.lit (.bool false)], args := [d1, d2, d3, d4, d5] }
  | _ => none }
def FirmwareStoresWrongFalsely : Prop := firmwareStoresRow.holds Tryz.pinned (OpenSpec.ofChange firmwareStoresWrong)

/-- 'capsulelaw26.FirmwareKeeps': WHATEVER THE INPUT: true; the input reads as it did. -/
def firmwareKeepsSpec : ChangeSpec := { name := "firmwareKeeps", fn := fun _ => fun
  | [d1, d2] => { results := [.lit (.bool true)], args := [d1, d2] }
  | _ => none }
def firmwareKeepsRow : OpenClaim := { program := "ytabfmhlhdebcpaagreatdoor", sum := "f79c69475c9c9d6f8a7bd2e94ffa711d8729959daa77f92b4e4bec00b09aadd4", func := "capsule/capsulelaw26.FirmwareKeeps", spec := "firmwareKeeps", inPlace := ["internal/abi.NoEscape", "internal/bytealg.MakeNoZero", "internal/bytealg.IndexByteString", "internal/bytealg.IndexString", "slices.overlaps[capsule/firmware.piece]"], unfollowed := true, recurses := true, named := ["unicode/utf8.first", "unicode/utf8.acceptRanges", "internal/bytealg.MaxLen"], apart := false, laid := [("unicode/utf8.acceptRanges", laid_unicode_utf8_acceptRanges), ("unicode/utf8.first", laid_unicode_utf8_first)] }
def FirmwareKeepsSaid : Prop := firmwareKeepsRow.holds Tryz.pinned (OpenSpec.ofChange firmwareKeepsSpec)

/-- ITS FALSE NEIGHBOUR: 'it returns false'. Refute it at one input. -/
def firmwareKeepsWrong : ChangeSpec := { name := "firmwareKeeps", fn := fun _ => fun
  | [d1, d2] => { results := [.lit (.bool false)], args := [d1, d2] }
  | _ => none }
def FirmwareKeepsWrongFalsely : Prop := firmwareKeepsRow.holds Tryz.pinned (OpenSpec.ofChange firmwareKeepsWrong)

/-- 'capsulelaw26.FirmwarePieces': WHATEVER THE INPUT: true; the input reads as it did. -/
def firmwarePiecesSpec : ChangeSpec := { name := "firmwarePieces", fn := fun _ => fun
  | [d1, d2, d3] => { results := [.lit (.bool true)], args := [d1, d2, d3] }
  | _ => none }
def firmwarePiecesRow : OpenClaim := { program := "ytabfmhlhdebcpaagreatdoor", sum := "f79c69475c9c9d6f8a7bd2e94ffa711d8729959daa77f92b4e4bec00b09aadd4", func := "capsule/capsulelaw26.FirmwarePieces", spec := "firmwarePieces", inPlace := ["internal/abi.NoEscape", "internal/bytealg.MakeNoZero", "internal/bytealg.IndexByteString", "internal/bytealg.IndexString", "slices.overlaps[capsule/firmware.piece]"], unfollowed := true, recurses := true, named := ["unicode/utf8.first", "unicode/utf8.acceptRanges", "internal/bytealg.MaxLen"], apart := false, laid := [("unicode/utf8.acceptRanges", laid_unicode_utf8_acceptRanges), ("unicode/utf8.first", laid_unicode_utf8_first)] }
def FirmwarePiecesSaid : Prop := firmwarePiecesRow.holds Tryz.pinned (OpenSpec.ofChange firmwarePiecesSpec)

/-- ITS FALSE NEIGHBOUR: 'it returns false'. Refute it at one input. -/
def firmwarePiecesWrong : ChangeSpec := { name := "firmwarePieces", fn := fun _ => fun
  | [d1, d2, d3] => { results := [.lit (.bool false)], args := [d1, d2, d3] }
  | _ => none }
def FirmwarePiecesWrongFalsely : Prop := firmwarePiecesRow.holds Tryz.pinned (OpenSpec.ofChange firmwarePiecesWrong)

/-- 'capsulelaw26.FirmwareCopies': WHATEVER THE INPUT: true; the input reads as it did. -/
def firmwareCopiesSpec : ChangeSpec := { name := "firmwareCopies", fn := fun _ => fun
  | [d1, d2, d3, d4] => { results := [.lit (.bool true)], args := [d1, d2, d3, d4] }
  | _ => none }
def firmwareCopiesRow : OpenClaim := { program := "ytabfmhlhdebcpaagreatdoor", sum := "f79c69475c9c9d6f8a7bd2e94ffa711d8729959daa77f92b4e4bec00b09aadd4", func := "capsule/capsulelaw26.FirmwareCopies", spec := "firmwareCopies", inPlace := ["internal/abi.NoEscape", "internal/bytealg.MakeNoZero", "internal/bytealg.IndexByteString", "internal/bytealg.IndexString", "slices.overlaps[capsule/firmware.piece]"], unfollowed := true, recurses := true, named := ["unicode/utf8.first", "unicode/utf8.acceptRanges", "internal/bytealg.MaxLen"], apart := false, laid := [("unicode/utf8.acceptRanges", laid_unicode_utf8_acceptRanges), ("unicode/utf8.first", laid_unicode_utf8_first)] }
def FirmwareCopiesSaid : Prop := firmwareCopiesRow.holds Tryz.pinned (OpenSpec.ofChange firmwareCopiesSpec)

/-- ITS FALSE NEIGHBOUR: 'it returns false'. Refute it at one input. -/
def firmwareCopiesWrong : ChangeSpec := { name := "firmwareCopies", fn := fun _ => fun
  | [d1, d2, d3, d4] => { results := [.lit (.bool false)], args := [d1, d2, d3, d4] }
  | _ => none }
def FirmwareCopiesWrongFalsely : Prop := firmwareCopiesRow.holds Tryz.pinned (OpenSpec.ofChange firmwareCopiesWrong)

/-- 'capsulelaw26.FirmwareNil': WHATEVER THE INPUT: true; the input reads as it did. -/
def firmwareNilSpec : ChangeSpec := { name := "firmwareNil", fn := fun _ => fun
  | [d] => { results := [.lit (.bool true)], args := [d] }
  | _ => none }
def firmwareNilRow : OpenClaim := { program := "ytabfmhlhdebcpaagreatdoor", sum := "f79c69475c9c9d6f8a7bd2e94ffa711d8729959daa77f92b4e4bec00b09aadd4", func := "capsule/capsulelaw26.FirmwareNil", spec := "firmwareNil", inPlace := ["slices.overlaps[capsule/firmware.piece]", "internal/bytealg.IndexByteString", "internal/bytealg.IndexString", "internal/abi.NoEscape", "internal/bytealg.MakeNoZero"], unfollowed := true, recurses := true, named := ["unicode/utf8.first", "unicode/utf8.acceptRanges", "internal/bytealg.MaxLen"], apart := false, laid := [("unicode/utf8.acceptRanges", laid_unicode_utf8_acceptRanges), ("unicode/utf8.first", laid_unicode_utf8_first)] }
def FirmwareNilSaid : Prop := firmwareNilRow.holds Tryz.pinned (OpenSpec.ofChange firmwareNilSpec)

/-- ITS FALSE NEIGHBOUR: 'it returns false'. Refute it at one input. -/
def firmwareNilWrong : ChangeSpec := { name := "firmwareNil", fn := fun _ => fun
  | [d] => { results := [.lit (.bool false)], args := [d] }
  | _ => none }
def FirmwareNilWrongFalsely : Prop := firmwareNilRow.holds Tryz.pinned (OpenSpec.ofChange firmwareNilWrong)

/- THE SECOND FORM. 'bulk': how many values and letters a reading holds, each counted each time it is reached (what is shared counts as often as it is met; a slice's spare places count too). A statement '..UptoSaid' is the law's where the arguments, and the package variables that the reading takes, are together of bulk at most 1048576: NARROWER than '..Said'. Prove '..Said' where nothing that the law and all that it calls make is longer than what came in: it says more and counts as full. Else prove '..UptoSaid'. A law counts once. -/
mutual
def uptoBulk {H : Type} : DataW H → Nat
  | .lit (.string bytes) => bytes.length + 1
  | .lit _ => 1
  | .nil => 1
  | .ptr d => uptoBulk d + 1
  | .slice elems spare => uptoBulkAll elems + uptoBulkAll spare + 1
  | .agg parts => uptoBulkAll parts + 1
  | .iface _ d => uptoBulk d + 1
  | .map entries => uptoBulkEntries entries + 1
  | .held _ => 1
def uptoBulkAll {H : Type} : List (DataW H) → Nat
  | [] => 0
  | d :: r => uptoBulk d + uptoBulkAll r
def uptoBulkEntries {H : Type} : List (Lit × DataW H) → Nat
  | [] => 0
  | x :: r => uptoBulkEntry x + uptoBulkEntries r
def uptoBulkEntry {H : Type} : Lit × DataW H → Nat
  | (.string bytes, d) => bytes.length + uptoBulk d + 1
  | (_, d) => uptoBulk d + 1
 end
def uptoSmall : (H : Type) → List (DataW H) → Bool := fun _ ds => decide (uptoBulkAll ds ≤ 1048576)
def OpenSpec.upto (s : _root_.Go.ChangeSpec) : _root_.Go.OpenSpec := { _root_.Go.OpenSpec.ofChange s with cond := some uptoSmall }

/-- 'capsulelaw26.FirmwareRuns', WHERE WHAT IT READS IS OF BULK AT MOST 1048576: true; the input reads as it did. -/
def firmwareRunsUptoRow : OpenClaim := { program := "ytabfmhlhdebcpaagreatdoor", sum := "f79c69475c9c9d6f8a7bd2e94ffa711d8729959daa77f92b4e4bec00b09aadd4", func := "capsule/capsulelaw26.FirmwareRuns", spec := "firmwareRuns", inPlace := ["internal/abi.NoEscape", "internal/bytealg.MakeNoZero", "internal/bytealg.IndexByteString", "internal/bytealg.IndexString", "slices.overlaps[capsule/firmware.piece]"], unfollowed := true, recurses := true, named := ["unicode/utf8.first", "unicode/utf8.acceptRanges", "internal/bytealg.MaxLen"], apart := false, laid := [("unicode/utf8.acceptRanges", laid_unicode_utf8_acceptRanges), ("unicode/utf8.first", laid_unicode_utf8_first)], narrowed := true }
def FirmwareRunsUptoSaid : Prop := firmwareRunsUptoRow.holds Tryz.pinned (OpenSpec.upto firmwareRunsSpec)

/-- 'capsulelaw26.FirmwareImages', WHERE WHAT IT READS IS OF BULK AT MOST 1048576: true; the input reads as it did. -/
def firmwareImagesUptoRow : OpenClaim := { program := "ytabfmhlhdebcpaagreatdoor", sum := "f79c69475c9c9d6f8a7bd2e94ffa711d8729959daa77f92b4e4bec00b09aadd4", func := "capsule/capsulelaw26.FirmwareImages", spec := "firmwareImages", inPlace := ["internal/abi.NoEscape", "internal/bytealg.MakeNoZero", "internal/bytealg.IndexByteString", "internal/bytealg.IndexString", "slices.overlaps[capsule/firmware.piece]"], unfollowed := true, recurses := true, named := ["unicode/utf8.first", "unicode/utf8.acceptRanges", "internal/bytealg.MaxLen"], apart := false, laid := [("unicode/utf8.acceptRanges", laid_unicode_utf8_acceptRanges), ("unicode/utf8.first", laid_unicode_utf8_first)], narrowed := true }
def FirmwareImagesUptoSaid : Prop := firmwareImagesUptoRow.holds Tryz.pinned (OpenSpec.upto firmwareImagesSpec)

/-- 'capsulelaw26.FirmwareStores', WHERE WHAT IT READS IS OF BULK AT MOST 1048576: true; the input reads as it did. -/
def firmwareStoresUptoRow : OpenClaim := { program := "ytabfmhlhdebcpaagreatdoor", sum := "f79c69475c9c9d6f8a7bd2e94ffa711d8729959daa77f92b4e4bec00b09aadd4", func := "capsule/capsulelaw26.FirmwareStores", spec := "firmwareStores", inPlace := ["internal/abi.NoEscape", "internal/bytealg.MakeNoZero", "internal/bytealg.IndexByteString", "internal/bytealg.IndexString", "slices.overlaps[capsule/firmware.piece]"], unfollowed := true, recurses := true, named := ["unicode/utf8.first", "unicode/utf8.acceptRanges", "internal/bytealg.MaxLen"], apart := false, laid := [("unicode/utf8.acceptRanges", laid_unicode_utf8_acceptRanges), ("unicode/utf8.first", laid_unicode_utf8_first)], narrowed := true }
def FirmwareStoresUptoSaid : Prop := firmwareStoresUptoRow.holds Tryz.pinned (OpenSpec.upto firmwareStoresSpec)

/-- 'capsulelaw26.FirmwareKeeps', WHERE WHAT IT READS IS OF BULK AT MOST 1048576: true; the input reads as it did. -/
def firmwareKeepsUptoRow : OpenClaim := { program := "ytabfmhlhdebcpaagreatdoor", sum := "f79c69475c9c9d6f8a7bd2e94ffa711d8729959daa77f92b4e4bec00b09aadd4", func := "capsule/capsulelaw26.FirmwareKeeps", spec := "firmwareKeeps", inPlace := ["internal/abi.NoEscape", "internal/bytealg.MakeNoZero", "internal/bytealg.IndexByteString", "internal/bytealg.IndexString", "slices.overlaps[capsule/firmware.piece]"], unfollowed := true, recurses := true, named := ["unicode/utf8.first", "unicode/utf8.acceptRanges", "internal/bytealg.MaxLen"], apart := false, laid := [("unicode/utf8.acceptRanges", laid_unicode_utf8_acceptRanges), ("unicode/utf8.first", laid_unicode_utf8_first)], narrowed := true }
def FirmwareKeepsUptoSaid : Prop := firmwareKeepsUptoRow.holds Tryz.pinned (OpenSpec.upto firmwareKeepsSpec)

/-- 'capsulelaw26.FirmwarePieces', WHERE WHAT IT READS IS OF BULK AT MOST 1048576: true; the input reads as it did. -/
def firmwarePiecesUptoRow : OpenClaim := { program := "ytabfmhlhdebcpaagreatdoor", sum := "f79c69475c9c9d6f8a7bd2e94ffa711d8729959daa77f92b4e4bec00b09aadd4", func := "capsule/capsulelaw26.FirmwarePieces", spec := "firmwarePieces", inPlace := ["internal/abi.NoEscape", "internal/bytealg.MakeNoZero", "internal/bytealg.IndexByteString", "internal/bytealg.IndexString", "slices.overlaps[capsule/firmware.piece]"], unfollowed := true, recurses := true, named := ["unicode/utf8.first", "unicode/utf8.acceptRanges", "internal/bytealg.MaxLen"], apart := false, laid := [("unicode/utf8.acceptRanges", laid_unicode_utf8_acceptRanges), ("unicode/utf8.first", laid_unicode_utf8_first)], narrowed := true }
def FirmwarePiecesUptoSaid : Prop := firmwarePiecesUptoRow.holds Tryz.pinned (OpenSpec.upto firmwarePiecesSpec)

/-- 'capsulelaw26.FirmwareCopies', WHERE WHAT IT READS IS OF BULK AT MOST 1048576: true; the input reads as it did. -/
def firmwareCopiesUptoRow : OpenClaim := { program := "ytabfmhlhdebcpaagreatdoor", sum := "f79c69475c9c9d6f8a7bd2e94ffa711d8729959daa77f92b4e4bec00b09aadd4", func := "capsule/capsulelaw26.FirmwareCopies", spec := "firmwareCopies", inPlace := ["internal/abi.NoEscape", "internal/bytealg.MakeNoZero", "internal/bytealg.IndexByteString", "internal/bytealg.IndexString", "slices.overlaps[capsule/firmware.piece]"], unfollowed := true, recurses := true, named := ["unicode/utf8.first", "unicode/utf8.acceptRanges", "internal/bytealg.MaxLen"], apart := false, laid := [("unicode/utf8.acceptRanges", laid_unicode_utf8_acceptRanges), ("unicode/utf8.first", laid_unicode_utf8_first)], narrowed := true }
def FirmwareCopiesUptoSaid : Prop := firmwareCopiesUptoRow.holds Tryz.pinned (OpenSpec.upto firmwareCopiesSpec)

/-- 'capsulelaw26.FirmwareNil', WHERE WHAT IT READS IS OF BULK AT MOST 1048576: true; the input reads as it did. -/
def firmwareNilUptoRow : OpenClaim := { program := "ytabfmhlhdebcpaagreatdoor", sum := "f79c69475c9c9d6f8a7bd2e94ffa711d8729959daa77f92b4e4bec00b09aadd4", func := "capsule/capsulelaw26.FirmwareNil", spec := "firmwareNil", inPlace := ["slices.overlaps[capsule/firmware.piece]", "internal/bytealg.IndexByteString", "internal/bytealg.IndexString", "internal/abi.NoEscape", "internal/bytealg.MakeNoZero"], unfollowed := true, recurses := true, named := ["unicode/utf8.first", "unicode/utf8.acceptRanges", "internal/bytealg.MaxLen"], apart := false, laid := [("unicode/utf8.acceptRanges", laid_unicode_utf8_acceptRanges), ("unicode/utf8.first", laid_unicode_utf8_first)], narrowed := true }
def FirmwareNilUptoSaid : Prop := firmwareNilUptoRow.holds Tryz.pinned (OpenSpec.upto firmwareNilSpec)

end Rows
end Go.Proofs.YtabfmhlhdebcpaaGreatDoor
