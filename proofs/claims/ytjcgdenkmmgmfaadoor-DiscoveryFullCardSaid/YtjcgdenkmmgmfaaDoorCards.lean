/-
  DERIVED. GIVEN WITH THE SEED: THE CARDS: each row of YtjcgdenkmmgmfaaDoorRows.lean that lists a variable, with what it lists TIED to the program's text (the seventh form; the later family's looks); each row that meets fmt, with fmt's text TOLD by the authors' own Lean function (tested against real Go, not proved from fmt's source: count such statements apart). THE CARD IS WHAT COUNTS. Prove the row's statement (the work); the ties are given (YtjcgdenkmmgmfaaDoorTie.lean); close each card by the builder's one call (the guide's Derived/Test/ToyasCard.lean, 'card_holds'). Laid BY PROGRAM, IN A SANDBOX (cutbox-door.mjs). By AI agents, Wed Nov 11 2026. No macro, syntax, notation, axiom, sorry.
-/
import Derived.Test.YtjcgdenkmmgmfaaDoorRows
import GoSem.ClaimSeven
namespace Go.Proofs.YtjcgdenkmmgmfaaDoor
namespace Rows

/-- THE TIED CARD OF 'capsulelaw40.DiscoveryEncodes'. -/
def discoveryEncodesCard : Claim7 := { stood := { row := discoveryEncodesRow, standIns := [], harness := (true, "1d978b013e6819f96466fbee7f38184fd88737c1bcabfe09ede1f244fd53c60e"), looks := false }, kinds := [], alts := [], laidByText := true, laidKinds := [.data, .pinned], laidTests := true, laidLooks := .later }
def DiscoveryEncodesCardSaid : Prop := Claim7.holds Tryd.pinned (.plain (OpenSpec.ofChange discoveryEncodesSpec)) discoveryEncodesCard

/-- THE TIED CARD OF 'capsulelaw40.DiscoveryDecodes'. -/
def discoveryDecodesCard : Claim7 := { stood := { row := discoveryDecodesRow, standIns := [], harness := (true, "1d978b013e6819f96466fbee7f38184fd88737c1bcabfe09ede1f244fd53c60e"), looks := false }, kinds := [], alts := [], laidByText := true, laidKinds := [.data, .pinned], laidTests := true, laidLooks := .later }
def DiscoveryDecodesCardSaid : Prop := Claim7.holds Tryd.pinned (.plain (OpenSpec.ofChange discoveryDecodesSpec)) discoveryDecodesCard

/-- THE TIED CARD OF 'capsulelaw40.DiscoveryBack'. -/
def discoveryBackCard : Claim7 := { stood := { row := discoveryBackRow, standIns := [], harness := (true, "1d978b013e6819f96466fbee7f38184fd88737c1bcabfe09ede1f244fd53c60e"), looks := false }, kinds := [], alts := [], laidByText := true, laidKinds := [.data, .pinned], laidTests := true, laidLooks := .later }
def DiscoveryBackCardSaid : Prop := Claim7.holds Tryd.pinned (.plain (OpenSpec.ofChange discoveryBackSpec)) discoveryBackCard

/-- THE TIED CARD OF 'capsulelaw40.DiscoveryHides'. -/
def discoveryHidesCard : Claim7 := { stood := { row := discoveryHidesRow, standIns := [], harness := (true, "1d978b013e6819f96466fbee7f38184fd88737c1bcabfe09ede1f244fd53c60e"), looks := false }, kinds := [], alts := [], laidByText := true, laidKinds := [.data, .pinned], laidTests := true, laidLooks := .later }
def DiscoveryHidesCardSaid : Prop := Claim7.holds Tryd.pinned (.plain (OpenSpec.ofChange discoveryHidesSpec)) discoveryHidesCard

/-- THE TIED CARD OF 'capsulelaw40.DiscoveryFull'. -/
def discoveryFullCard : Claim7 := { stood := { row := discoveryFullRow, standIns := [], harness := (true, "1d978b013e6819f96466fbee7f38184fd88737c1bcabfe09ede1f244fd53c60e"), looks := false }, kinds := [], alts := [], laidByText := true, laidKinds := [.data, .pinned], laidTests := true, laidLooks := .later }
def DiscoveryFullCardSaid : Prop := Claim7.holds Tryd.pinned (.plain (OpenSpec.ofChange discoveryFullSpec)) discoveryFullCard

/-- THE SECOND FORM's CARD OF 'capsulelaw40.DiscoveryEncodes'. -/
def discoveryEncodesUptoCard : Claim7 := { stood := { row := discoveryEncodesUptoRow, standIns := [], harness := (true, "1d978b013e6819f96466fbee7f38184fd88737c1bcabfe09ede1f244fd53c60e"), looks := false }, kinds := [], alts := [], laidByText := true, laidKinds := [.data, .pinned], laidTests := true, laidLooks := .later }
def DiscoveryEncodesUptoCardSaid : Prop := Claim7.holds Tryd.pinned (.plain (OpenSpec.upto discoveryEncodesSpec)) discoveryEncodesUptoCard

/-- THE SECOND FORM's CARD OF 'capsulelaw40.DiscoveryDecodes'. -/
def discoveryDecodesUptoCard : Claim7 := { stood := { row := discoveryDecodesUptoRow, standIns := [], harness := (true, "1d978b013e6819f96466fbee7f38184fd88737c1bcabfe09ede1f244fd53c60e"), looks := false }, kinds := [], alts := [], laidByText := true, laidKinds := [.data, .pinned], laidTests := true, laidLooks := .later }
def DiscoveryDecodesUptoCardSaid : Prop := Claim7.holds Tryd.pinned (.plain (OpenSpec.upto discoveryDecodesSpec)) discoveryDecodesUptoCard

/-- THE SECOND FORM's CARD OF 'capsulelaw40.DiscoveryBack'. -/
def discoveryBackUptoCard : Claim7 := { stood := { row := discoveryBackUptoRow, standIns := [], harness := (true, "1d978b013e6819f96466fbee7f38184fd88737c1bcabfe09ede1f244fd53c60e"), looks := false }, kinds := [], alts := [], laidByText := true, laidKinds := [.data, .pinned], laidTests := true, laidLooks := .later }
def DiscoveryBackUptoCardSaid : Prop := Claim7.holds Tryd.pinned (.plain (OpenSpec.upto discoveryBackSpec)) discoveryBackUptoCard

/-- THE SECOND FORM's CARD OF 'capsulelaw40.DiscoveryHides'. -/
def discoveryHidesUptoCard : Claim7 := { stood := { row := discoveryHidesUptoRow, standIns := [], harness := (true, "1d978b013e6819f96466fbee7f38184fd88737c1bcabfe09ede1f244fd53c60e"), looks := false }, kinds := [], alts := [], laidByText := true, laidKinds := [.data, .pinned], laidTests := true, laidLooks := .later }
def DiscoveryHidesUptoCardSaid : Prop := Claim7.holds Tryd.pinned (.plain (OpenSpec.upto discoveryHidesSpec)) discoveryHidesUptoCard

/-- THE SECOND FORM's CARD OF 'capsulelaw40.DiscoveryFull'. -/
def discoveryFullUptoCard : Claim7 := { stood := { row := discoveryFullUptoRow, standIns := [], harness := (true, "1d978b013e6819f96466fbee7f38184fd88737c1bcabfe09ede1f244fd53c60e"), looks := false }, kinds := [], alts := [], laidByText := true, laidKinds := [.data, .pinned], laidTests := true, laidLooks := .later }
def DiscoveryFullUptoCardSaid : Prop := Claim7.holds Tryd.pinned (.plain (OpenSpec.upto discoveryFullSpec)) discoveryFullUptoCard
end Rows
end Go.Proofs.YtjcgdenkmmgmfaaDoor
