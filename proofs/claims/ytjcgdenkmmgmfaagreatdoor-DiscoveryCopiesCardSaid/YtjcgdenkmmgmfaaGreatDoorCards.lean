/-
  DERIVED. GIVEN WITH THE SEED: THE CARDS: each row of YtjcgdenkmmgmfaaGreatDoorRows.lean that lists a variable, with what it lists TIED to the program's text (the seventh form; the later family's looks); each row that meets fmt, with fmt's text TOLD by the authors' own Lean function (tested against real Go, not proved from fmt's source: count such statements apart). THE CARD IS WHAT COUNTS. Prove the row's statement (the work); the ties are given (YtjcgdenkmmgmfaaGreatDoorTie.lean); close each card by the builder's one call (the guide's Derived/Test/ToyasCard.lean, 'card_holds'). Laid BY PROGRAM, IN A SANDBOX (cutbox-door.mjs). By AI agents, Wed Nov 11 2026. No macro, syntax, notation, axiom, sorry.
-/
import Derived.Test.YtjcgdenkmmgmfaaGreatDoorRows
import GoSem.ClaimSeven
namespace Go.Proofs.YtjcgdenkmmgmfaaGreatDoor
namespace Rows

/-- THE TIED CARD OF 'capsulelaw40.DiscoveryPlays'. -/
def discoveryPlaysCard : Claim7 := { stood := { row := discoveryPlaysRow, standIns := [], harness := (true, "8d3d07719c6dac9c23118bb581d6b34d1c3fd67f757888adea926434b06c576d"), looks := false }, kinds := [], alts := [], laidByText := true, laidKinds := [.data, .pinned], laidTests := true, laidLooks := .later }
def DiscoveryPlaysCardSaid : Prop := Claim7.holds Tryz.pinned (.plain (OpenSpec.ofChange discoveryPlaysSpec)) discoveryPlaysCard

/-- THE TIED CARD OF 'capsulelaw40.DiscoveryCopies'. -/
def discoveryCopiesCard : Claim7 := { stood := { row := discoveryCopiesRow, standIns := [], harness := (true, "8d3d07719c6dac9c23118bb581d6b34d1c3fd67f757888adea926434b06c576d"), looks := false }, kinds := [], alts := [], laidByText := true, laidKinds := [.data, .pinned], laidTests := true, laidLooks := .later }
def DiscoveryCopiesCardSaid : Prop := Claim7.holds Tryz.pinned (.plain (OpenSpec.ofChange discoveryCopiesSpec)) discoveryCopiesCard

/-- THE SECOND FORM's CARD OF 'capsulelaw40.DiscoveryPlays'. -/
def discoveryPlaysUptoCard : Claim7 := { stood := { row := discoveryPlaysUptoRow, standIns := [], harness := (true, "8d3d07719c6dac9c23118bb581d6b34d1c3fd67f757888adea926434b06c576d"), looks := false }, kinds := [], alts := [], laidByText := true, laidKinds := [.data, .pinned], laidTests := true, laidLooks := .later }
def DiscoveryPlaysUptoCardSaid : Prop := Claim7.holds Tryz.pinned (.plain (OpenSpec.upto discoveryPlaysSpec)) discoveryPlaysUptoCard

/-- THE SECOND FORM's CARD OF 'capsulelaw40.DiscoveryCopies'. -/
def discoveryCopiesUptoCard : Claim7 := { stood := { row := discoveryCopiesUptoRow, standIns := [], harness := (true, "8d3d07719c6dac9c23118bb581d6b34d1c3fd67f757888adea926434b06c576d"), looks := false }, kinds := [], alts := [], laidByText := true, laidKinds := [.data, .pinned], laidTests := true, laidLooks := .later }
def DiscoveryCopiesUptoCardSaid : Prop := Claim7.holds Tryz.pinned (.plain (OpenSpec.upto discoveryCopiesSpec)) discoveryCopiesUptoCard
end Rows
end Go.Proofs.YtjcgdenkmmgmfaaGreatDoor
