/-
  DERIVED. GIVEN WITH THE SEED: THE CARDS: each row of YtabfmhlhdebcpaaGreatDoorRows.lean that lists a variable, with what it lists TIED to the program's text (the seventh form; the later family's looks); each row that meets fmt, with fmt's text TOLD by the authors' own Lean function (tested against real Go, not proved from fmt's source: count such statements apart). THE CARD IS WHAT COUNTS. Prove the row's statement (the work); the ties are given (YtabfmhlhdebcpaaGreatDoorTie.lean); close each card by the builder's one call (the guide's Derived/Test/ToyasCard.lean, 'card_holds'). Laid BY PROGRAM, IN A SANDBOX (cutbox-door.mjs). By AI agents, Wed Nov 11 2026. No macro, syntax, notation, axiom, sorry.
-/
import Derived.Test.YtabfmhlhdebcpaaGreatDoorRows
import GoSem.ClaimSeven
namespace Go.Proofs.YtabfmhlhdebcpaaGreatDoor
namespace Rows

/-- THE TIED CARD OF 'capsulelaw26.FirmwareRuns'. -/
def firmwareRunsCard : Claim7 := { stood := { row := firmwareRunsRow, standIns := [], harness := (true, "c148cb13428661e0a31c6a9790026fe3871dad701fb0a98a168f2b8609c14c39"), looks := false }, kinds := [], alts := [], laidByText := true, laidKinds := [.data, .pinned], laidTests := true, laidLooks := .later }
def FirmwareRunsCardSaid : Prop := Claim7.holds Tryz.pinned (.plain (OpenSpec.ofChange firmwareRunsSpec)) firmwareRunsCard

/-- THE TIED CARD OF 'capsulelaw26.FirmwareImages'. -/
def firmwareImagesCard : Claim7 := { stood := { row := firmwareImagesRow, standIns := [], harness := (true, "c148cb13428661e0a31c6a9790026fe3871dad701fb0a98a168f2b8609c14c39"), looks := false }, kinds := [], alts := [], laidByText := true, laidKinds := [.data, .pinned], laidTests := true, laidLooks := .later }
def FirmwareImagesCardSaid : Prop := Claim7.holds Tryz.pinned (.plain (OpenSpec.ofChange firmwareImagesSpec)) firmwareImagesCard

/-- THE TIED CARD OF 'capsulelaw26.FirmwareStores'. -/
def firmwareStoresCard : Claim7 := { stood := { row := firmwareStoresRow, standIns := [], harness := (true, "c148cb13428661e0a31c6a9790026fe3871dad701fb0a98a168f2b8609c14c39"), looks := false }, kinds := [], alts := [], laidByText := true, laidKinds := [.data, .pinned], laidTests := true, laidLooks := .later }
def FirmwareStoresCardSaid : Prop := Claim7.holds Tryz.pinned (.plain (OpenSpec.ofChange firmwareStoresSpec)) firmwareStoresCard

/-- THE TIED CARD OF 'capsulelaw26.FirmwareKeeps'. -/
def firmwareKeepsCard : Claim7 := { stood := { row := firmwareKeepsRow, standIns := [], harness := (true, "c148cb13428661e0a31c6a9790026fe3871dad701fb0a98a168f2b8609c14c39"), looks := false }, kinds := [], alts := [], laidByText := true, laidKinds := [.data, .pinned], laidTests := true, laidLooks := .later }
def FirmwareKeepsCardSaid : Prop := Claim7.holds Tryz.pinned (.plain (OpenSpec.ofChange firmwareKeepsSpec)) firmwareKeepsCard

/-- THE TIED CARD OF 'capsulelaw26.FirmwarePieces'. -/
def firmwarePiecesCard : Claim7 := { stood := { row := firmwarePiecesRow, standIns := [], harness := (true, "c148cb13428661e0a31c6a9790026fe3871dad701fb0a98a168f2b8609c14c39"), looks := false }, kinds := [], alts := [], laidByText := true, laidKinds := [.data, .pinned], laidTests := true, laidLooks := .later }
def FirmwarePiecesCardSaid : Prop := Claim7.holds Tryz.pinned (.plain (OpenSpec.ofChange firmwarePiecesSpec)) firmwarePiecesCard

/-- THE TIED CARD OF 'capsulelaw26.FirmwareCopies'. -/
def firmwareCopiesCard : Claim7 := { stood := { row := firmwareCopiesRow, standIns := [], harness := (true, "c148cb13428661e0a31c6a9790026fe3871dad701fb0a98a168f2b8609c14c39"), looks := false }, kinds := [], alts := [], laidByText := true, laidKinds := [.data, .pinned], laidTests := true, laidLooks := .later }
def FirmwareCopiesCardSaid : Prop := Claim7.holds Tryz.pinned (.plain (OpenSpec.ofChange firmwareCopiesSpec)) firmwareCopiesCard

/-- THE TIED CARD OF 'capsulelaw26.FirmwareNil'. -/
def firmwareNilCard : Claim7 := { stood := { row := firmwareNilRow, standIns := [], harness := (true, "c148cb13428661e0a31c6a9790026fe3871dad701fb0a98a168f2b8609c14c39"), looks := false }, kinds := [], alts := [], laidByText := true, laidKinds := [.data, .pinned], laidTests := true, laidLooks := .later }
def FirmwareNilCardSaid : Prop := Claim7.holds Tryz.pinned (.plain (OpenSpec.ofChange firmwareNilSpec)) firmwareNilCard

/-- THE SECOND FORM's CARD OF 'capsulelaw26.FirmwareRuns'. -/
def firmwareRunsUptoCard : Claim7 := { stood := { row := firmwareRunsUptoRow, standIns := [], harness := (true, "c148cb13428661e0a31c6a9790026fe3871dad701fb0a98a168f2b8609c14c39"), looks := false }, kinds := [], alts := [], laidByText := true, laidKinds := [.data, .pinned], laidTests := true, laidLooks := .later }
def FirmwareRunsUptoCardSaid : Prop := Claim7.holds Tryz.pinned (.plain (OpenSpec.upto firmwareRunsSpec)) firmwareRunsUptoCard

/-- THE SECOND FORM's CARD OF 'capsulelaw26.FirmwareImages'. -/
def firmwareImagesUptoCard : Claim7 := { stood := { row := firmwareImagesUptoRow, standIns := [], harness := (true, "c148cb13428661e0a31c6a9790026fe3871dad701fb0a98a168f2b8609c14c39"), looks := false }, kinds := [], alts := [], laidByText := true, laidKinds := [.data, .pinned], laidTests := true, laidLooks := .later }
def FirmwareImagesUptoCardSaid : Prop := Claim7.holds Tryz.pinned (.plain (OpenSpec.upto firmwareImagesSpec)) firmwareImagesUptoCard

/-- THE SECOND FORM's CARD OF 'capsulelaw26.FirmwareStores'. -/
def firmwareStoresUptoCard : Claim7 := { stood := { row := firmwareStoresUptoRow, standIns := [], harness := (true, "c148cb13428661e0a31c6a9790026fe3871dad701fb0a98a168f2b8609c14c39"), looks := false }, kinds := [], alts := [], laidByText := true, laidKinds := [.data, .pinned], laidTests := true, laidLooks := .later }
def FirmwareStoresUptoCardSaid : Prop := Claim7.holds Tryz.pinned (.plain (OpenSpec.upto firmwareStoresSpec)) firmwareStoresUptoCard

/-- THE SECOND FORM's CARD OF 'capsulelaw26.FirmwareKeeps'. -/
def firmwareKeepsUptoCard : Claim7 := { stood := { row := firmwareKeepsUptoRow, standIns := [], harness := (true, "c148cb13428661e0a31c6a9790026fe3871dad701fb0a98a168f2b8609c14c39"), looks := false }, kinds := [], alts := [], laidByText := true, laidKinds := [.data, .pinned], laidTests := true, laidLooks := .later }
def FirmwareKeepsUptoCardSaid : Prop := Claim7.holds Tryz.pinned (.plain (OpenSpec.upto firmwareKeepsSpec)) firmwareKeepsUptoCard

/-- THE SECOND FORM's CARD OF 'capsulelaw26.FirmwarePieces'. -/
def firmwarePiecesUptoCard : Claim7 := { stood := { row := firmwarePiecesUptoRow, standIns := [], harness := (true, "c148cb13428661e0a31c6a9790026fe3871dad701fb0a98a168f2b8609c14c39"), looks := false }, kinds := [], alts := [], laidByText := true, laidKinds := [.data, .pinned], laidTests := true, laidLooks := .later }
def FirmwarePiecesUptoCardSaid : Prop := Claim7.holds Tryz.pinned (.plain (OpenSpec.upto firmwarePiecesSpec)) firmwarePiecesUptoCard

/-- THE SECOND FORM's CARD OF 'capsulelaw26.FirmwareCopies'. -/
def firmwareCopiesUptoCard : Claim7 := { stood := { row := firmwareCopiesUptoRow, standIns := [], harness := (true, "c148cb13428661e0a31c6a9790026fe3871dad701fb0a98a168f2b8609c14c39"), looks := false }, kinds := [], alts := [], laidByText := true, laidKinds := [.data, .pinned], laidTests := true, laidLooks := .later }
def FirmwareCopiesUptoCardSaid : Prop := Claim7.holds Tryz.pinned (.plain (OpenSpec.upto firmwareCopiesSpec)) firmwareCopiesUptoCard

/-- THE SECOND FORM's CARD OF 'capsulelaw26.FirmwareNil'. -/
def firmwareNilUptoCard : Claim7 := { stood := { row := firmwareNilUptoRow, standIns := [], harness := (true, "c148cb13428661e0a31c6a9790026fe3871dad701fb0a98a168f2b8609c14c39"), looks := false }, kinds := [], alts := [], laidByText := true, laidKinds := [.data, .pinned], laidTests := true, laidLooks := .later }
def FirmwareNilUptoCardSaid : Prop := Claim7.holds Tryz.pinned (.plain (OpenSpec.upto firmwareNilSpec)) firmwareNilUptoCard
end Rows
end Go.Proofs.YtabfmhlhdebcpaaGreatDoor
