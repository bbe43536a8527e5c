/-
  DERIVED. GIVEN WITH THE SEED: THE CARDS: each row of YteicmbapipnbjaaDoorRows.lean that lists a variable, with what it lists TIED to the program's text (the seventh form; the later family's looks); each row that meets fmt, with fmt's text TOLD by the authors' own Lean function (tested against real Go, not proved from fmt's source: count such statements apart). THE CARD IS WHAT COUNTS. Prove the row's statement (the work); the ties are given (YteicmbapipnbjaaDoorTie.lean); close each card by the builder's one call (the guide's Derived/Test/ToyasCard.lean, 'card_holds'). Laid BY PROGRAM, IN A SANDBOX (cutbox-door.mjs). By AI agents, Wed Nov 11 2026. No macro, syntax, notation, axiom, sorry.
-/
import Derived.Test.YteicmbapipnbjaaDoorRows
import GoSem.ClaimSeven
namespace Go.Proofs.YteicmbapipnbjaaDoor
namespace Rows

/-- THE TIED CARD OF 'capsulelaw01.WirePuts'. -/
def wirePutsCard : Claim7 := { stood := { row := wirePutsRow, standIns := [], harness := (true, "f4c413d7a40e9cd5993d07235fc824f411f9036d69fb013c7cf06a245049e29e"), looks := false }, kinds := [], alts := [], laidByText := true, laidKinds := [.data, .pinned], laidTests := true, laidLooks := .later }
def WirePutsCardSaid : Prop := Claim7.holds Tryd.pinned (.plain (OpenSpec.ofChange wirePutsSpec)) wirePutsCard

/-- THE TIED CARD OF 'capsulelaw01.WireGets'. -/
def wireGetsCard : Claim7 := { stood := { row := wireGetsRow, standIns := [], harness := (true, "f4c413d7a40e9cd5993d07235fc824f411f9036d69fb013c7cf06a245049e29e"), looks := false }, kinds := [], alts := [], laidByText := true, laidKinds := [.data, .pinned], laidTests := true, laidLooks := .later }
def WireGetsCardSaid : Prop := Claim7.holds Tryd.pinned (.plain (OpenSpec.ofChange wireGetsSpec)) wireGetsCard

/-- THE TIED CARD OF 'capsulelaw01.WireFields'. -/
def wireFieldsCard : Claim7 := { stood := { row := wireFieldsRow, standIns := [], harness := (true, "f4c413d7a40e9cd5993d07235fc824f411f9036d69fb013c7cf06a245049e29e"), looks := false }, kinds := [], alts := [], laidByText := true, laidKinds := [.data, .pinned], laidTests := true, laidLooks := .later }
def WireFieldsCardSaid : Prop := Claim7.holds Tryd.pinned (.plain (OpenSpec.ofChange wireFieldsSpec)) wireFieldsCard

/-- THE TIED CARD OF 'capsulelaw01.WireTexts'. -/
def wireTextsCard : Claim7 := { stood := { row := wireTextsRow, standIns := [], harness := (true, "f4c413d7a40e9cd5993d07235fc824f411f9036d69fb013c7cf06a245049e29e"), looks := false }, kinds := [], alts := [], laidByText := true, laidKinds := [.data, .pinned], laidTests := true, laidLooks := .later }
def WireTextsCardSaid : Prop := Claim7.holds Tryd.pinned (.plain (OpenSpec.ofChange wireTextsSpec)) wireTextsCard

/-- THE TIED CARD OF 'capsulelaw01.WireBack'. -/
def wireBackCard : Claim7 := { stood := { row := wireBackRow, standIns := [], harness := (true, "f4c413d7a40e9cd5993d07235fc824f411f9036d69fb013c7cf06a245049e29e"), looks := false }, kinds := [], alts := [], laidByText := true, laidKinds := [.data, .pinned], laidTests := true, laidLooks := .later }
def WireBackCardSaid : Prop := Claim7.holds Tryd.pinned (.plain (OpenSpec.ofChange wireBackSpec)) wireBackCard

/-- THE TIED CARD OF 'capsulelaw01.WireReads'. -/
def wireReadsCard : Claim7 := { stood := { row := wireReadsRow, standIns := [], harness := (true, "f4c413d7a40e9cd5993d07235fc824f411f9036d69fb013c7cf06a245049e29e"), looks := false }, kinds := [], alts := [], laidByText := true, laidKinds := [.data, .pinned], laidTests := true, laidLooks := .later }
def WireReadsCardSaid : Prop := Claim7.holds Tryd.pinned (.plain (OpenSpec.ofChange wireReadsSpec)) wireReadsCard

/-- THE TIED CARD OF 'capsulelaw01.WireWrites'. -/
def wireWritesCard : Claim7 := { stood := { row := wireWritesRow, standIns := [], harness := (true, "f4c413d7a40e9cd5993d07235fc824f411f9036d69fb013c7cf06a245049e29e"), looks := false }, kinds := [], alts := [], laidByText := true, laidKinds := [.data, .pinned], laidTests := true, laidLooks := .later }
def WireWritesCardSaid : Prop := Claim7.holds Tryd.pinned (.plain (OpenSpec.ofChange wireWritesSpec)) wireWritesCard

/-- THE TIED CARD OF 'capsulelaw01.WireLimits'. -/
def wireLimitsCard : Claim7 := { stood := { row := wireLimitsRow, standIns := [], harness := (true, "f4c413d7a40e9cd5993d07235fc824f411f9036d69fb013c7cf06a245049e29e"), looks := false }, kinds := [], alts := [], laidByText := true, laidKinds := [.data, .pinned], laidTests := true, laidLooks := .later }
def WireLimitsCardSaid : Prop := Claim7.holds Tryd.pinned (.plain (OpenSpec.ofChange wireLimitsSpec)) wireLimitsCard

/-- THE SECOND FORM's CARD OF 'capsulelaw01.WirePuts'. -/
def wirePutsUptoCard : Claim7 := { stood := { row := wirePutsUptoRow, standIns := [], harness := (true, "f4c413d7a40e9cd5993d07235fc824f411f9036d69fb013c7cf06a245049e29e"), looks := false }, kinds := [], alts := [], laidByText := true, laidKinds := [.data, .pinned], laidTests := true, laidLooks := .later }
def WirePutsUptoCardSaid : Prop := Claim7.holds Tryd.pinned (.plain (OpenSpec.upto wirePutsSpec)) wirePutsUptoCard

/-- THE SECOND FORM's CARD OF 'capsulelaw01.WireGets'. -/
def wireGetsUptoCard : Claim7 := { stood := { row := wireGetsUptoRow, standIns := [], harness := (true, "f4c413d7a40e9cd5993d07235fc824f411f9036d69fb013c7cf06a245049e29e"), looks := false }, kinds := [], alts := [], laidByText := true, laidKinds := [.data, .pinned], laidTests := true, laidLooks := .later }
def WireGetsUptoCardSaid : Prop := Claim7.holds Tryd.pinned (.plain (OpenSpec.upto wireGetsSpec)) wireGetsUptoCard

/-- THE SECOND FORM's CARD OF 'capsulelaw01.WireFields'. -/
def wireFieldsUptoCard : Claim7 := { stood := { row := wireFieldsUptoRow, standIns := [], harness := (true, "f4c413d7a40e9cd5993d07235fc824f411f9036d69fb013c7cf06a245049e29e"), looks := false }, kinds := [], alts := [], laidByText := true, laidKinds := [.data, .pinned], laidTests := true, laidLooks := .later }
def WireFieldsUptoCardSaid : Prop := Claim7.holds Tryd.pinned (.plain (OpenSpec.upto wireFieldsSpec)) wireFieldsUptoCard

/-- THE SECOND FORM's CARD OF 'capsulelaw01.WireTexts'. -/
def wireTextsUptoCard : Claim7 := { stood := { row := wireTextsUptoRow, standIns := [], harness := (true, "f4c413d7a40e9cd5993d07235fc824f411f9036d69fb013c7cf06a245049e29e"), looks := false }, kinds := [], alts := [], laidByText := true, laidKinds := [.data, .pinned], laidTests := true, laidLooks := .later }
def WireTextsUptoCardSaid : Prop := Claim7.holds Tryd.pinned (.plain (OpenSpec.upto wireTextsSpec)) wireTextsUptoCard

/-- THE SECOND FORM's CARD OF 'capsulelaw01.WireBack'. -/
def wireBackUptoCard : Claim7 := { stood := { row := wireBackUptoRow, standIns := [], harness := (true, "f4c413d7a40e9cd5993d07235fc824f411f9036d69fb013c7cf06a245049e29e"), looks := false }, kinds := [], alts := [], laidByText := true, laidKinds := [.data, .pinned], laidTests := true, laidLooks := .later }
def WireBackUptoCardSaid : Prop := Claim7.holds Tryd.pinned (.plain (OpenSpec.upto wireBackSpec)) wireBackUptoCard

/-- THE SECOND FORM's CARD OF 'capsulelaw01.WireReads'. -/
def wireReadsUptoCard : Claim7 := { stood := { row := wireReadsUptoRow, standIns := [], harness := (true, "f4c413d7a40e9cd5993d07235fc824f411f9036d69fb013c7cf06a245049e29e"), looks := false }, kinds := [], alts := [], laidByText := true, laidKinds := [.data, .pinned], laidTests := true, laidLooks := .later }
def WireReadsUptoCardSaid : Prop := Claim7.holds Tryd.pinned (.plain (OpenSpec.upto wireReadsSpec)) wireReadsUptoCard

/-- THE SECOND FORM's CARD OF 'capsulelaw01.WireWrites'. -/
def wireWritesUptoCard : Claim7 := { stood := { row := wireWritesUptoRow, standIns := [], harness := (true, "f4c413d7a40e9cd5993d07235fc824f411f9036d69fb013c7cf06a245049e29e"), looks := false }, kinds := [], alts := [], laidByText := true, laidKinds := [.data, .pinned], laidTests := true, laidLooks := .later }
def WireWritesUptoCardSaid : Prop := Claim7.holds Tryd.pinned (.plain (OpenSpec.upto wireWritesSpec)) wireWritesUptoCard

/-- THE SECOND FORM's CARD OF 'capsulelaw01.WireLimits'. -/
def wireLimitsUptoCard : Claim7 := { stood := { row := wireLimitsUptoRow, standIns := [], harness := (true, "f4c413d7a40e9cd5993d07235fc824f411f9036d69fb013c7cf06a245049e29e"), looks := false }, kinds := [], alts := [], laidByText := true, laidKinds := [.data, .pinned], laidTests := true, laidLooks := .later }
def WireLimitsUptoCardSaid : Prop := Claim7.holds Tryd.pinned (.plain (OpenSpec.upto wireLimitsSpec)) wireLimitsUptoCard
end Rows
end Go.Proofs.YteicmbapipnbjaaDoor
