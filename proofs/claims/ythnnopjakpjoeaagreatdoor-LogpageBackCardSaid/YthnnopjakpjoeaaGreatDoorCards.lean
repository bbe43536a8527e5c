/-
  DERIVED. GIVEN WITH THE SEED: THE CARDS: each row of YthnnopjakpjoeaaGreatDoorRows.lean that lists a variable, with what it lists TIED to the program's text (the seventh form; the later family's looks); each row that meets fmt, with fmt's text TOLD by the authors' own Lean function (tested against real Go, not proved from fmt's source: count such statements apart). THE CARD IS WHAT COUNTS. Prove the row's statement (the work); the ties are given (YthnnopjakpjoeaaGreatDoorTie.lean); close each card by the builder's one call (the guide's Derived/Test/ToyasCard.lean, 'card_holds'). Laid BY PROGRAM, IN A SANDBOX (cutbox-door.mjs). By AI agents, Wed Nov 11 2026. No macro, syntax, notation, axiom, sorry.
-/
import Derived.Test.YthnnopjakpjoeaaGreatDoorRows
import GoSem.ClaimSeven
namespace Go.Proofs.YthnnopjakpjoeaaGreatDoor
namespace Rows

/-- THE TIED CARD OF 'capsulelaw23.LogpageSlots'. -/
def logpageSlotsCard : Claim7 := { stood := { row := logpageSlotsRow, standIns := [], harness := (true, "4d1b133f4edefb37032300d6f17ccafa6beb0c00094b4518409b6a5dcb95dbd1"), looks := false }, kinds := [], alts := [], laidByText := true, laidKinds := [.data, .listed, .data, .pinned], laidTests := true, laidLooks := .later }
def LogpageSlotsCardSaid : Prop := Claim7.holds Tryz.pinned (.plain (OpenSpec.ofChange logpageSlotsSpec)) logpageSlotsCard

/-- THE TIED CARD OF 'capsulelaw23.LogpageBack'. -/
def logpageBackCard : Claim7 := { stood := { row := logpageBackRow, standIns := [], harness := (true, "4d1b133f4edefb37032300d6f17ccafa6beb0c00094b4518409b6a5dcb95dbd1"), looks := false }, kinds := [], alts := [], laidByText := true, laidKinds := [.data, .listed, .data, .pinned], laidTests := true, laidLooks := .later }
def LogpageBackCardSaid : Prop := Claim7.holds Tryz.pinned (.plain (OpenSpec.ofChange logpageBackSpec)) logpageBackCard

/-- THE SECOND FORM's CARD OF 'capsulelaw23.LogpageSlots'. -/
def logpageSlotsUptoCard : Claim7 := { stood := { row := logpageSlotsUptoRow, standIns := [], harness := (true, "4d1b133f4edefb37032300d6f17ccafa6beb0c00094b4518409b6a5dcb95dbd1"), looks := false }, kinds := [], alts := [], laidByText := true, laidKinds := [.data, .listed, .data, .pinned], laidTests := true, laidLooks := .later }
def LogpageSlotsUptoCardSaid : Prop := Claim7.holds Tryz.pinned (.plain (OpenSpec.upto logpageSlotsSpec)) logpageSlotsUptoCard

/-- THE SECOND FORM's CARD OF 'capsulelaw23.LogpageBack'. -/
def logpageBackUptoCard : Claim7 := { stood := { row := logpageBackUptoRow, standIns := [], harness := (true, "4d1b133f4edefb37032300d6f17ccafa6beb0c00094b4518409b6a5dcb95dbd1"), looks := false }, kinds := [], alts := [], laidByText := true, laidKinds := [.data, .listed, .data, .pinned], laidTests := true, laidLooks := .later }
def LogpageBackUptoCardSaid : Prop := Claim7.holds Tryz.pinned (.plain (OpenSpec.upto logpageBackSpec)) logpageBackUptoCard
end Rows
end Go.Proofs.YthnnopjakpjoeaaGreatDoor
