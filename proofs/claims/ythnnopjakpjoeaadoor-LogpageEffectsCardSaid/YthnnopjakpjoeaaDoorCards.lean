/-
  DERIVED. GIVEN WITH THE SEED: THE CARDS: each row of YthnnopjakpjoeaaDoorRows.lean that lists a variable, with what it lists TIED to the program's text (the seventh form; the later family's looks); each row that meets fmt, with fmt's text TOLD by the authors' own Lean function (tested against real Go, not proved from fmt's source: count such statements apart). THE CARD IS WHAT COUNTS. Prove the row's statement (the work); the ties are given (YthnnopjakpjoeaaDoorTie.lean); close each card by the builder's one call (the guide's Derived/Test/ToyasCard.lean, 'card_holds'). Laid BY PROGRAM, IN A SANDBOX (cutbox-door.mjs). By AI agents, Wed Nov 11 2026. No macro, syntax, notation, axiom, sorry.
-/
import Derived.Test.YthnnopjakpjoeaaDoorRows
import GoSem.ClaimSeven
namespace Go.Proofs.YthnnopjakpjoeaaDoor
namespace Rows

/-- THE TIED CARD OF 'capsulelaw23.LogpageSlices'. -/
def logpageSlicesCard : Claim7 := { stood := { row := logpageSlicesRow, standIns := [], harness := (true, "ed506850771ae5c20774d7b059f02751ef7124a8c6242637b19bb2920f3d3e66"), looks := false }, kinds := [], alts := [], laidByText := true, laidKinds := [.data, .listed, .data, .pinned], laidTests := true, laidLooks := .later }
def LogpageSlicesCardSaid : Prop := Claim7.holds Tryd.pinned (.plain (OpenSpec.ofChange logpageSlicesSpec)) logpageSlicesCard

/-- THE TIED CARD OF 'capsulelaw24.IdentifyReads'. -/
def identifyReadsCard : Claim7 := { stood := { row := identifyReadsRow, standIns := [], harness := (true, "ed506850771ae5c20774d7b059f02751ef7124a8c6242637b19bb2920f3d3e66"), looks := false }, kinds := [], alts := [], laidByText := true, laidKinds := [.data, .pinned], laidTests := true, laidLooks := .later }
def IdentifyReadsCardSaid : Prop := Claim7.holds Tryd.pinned (.plain (OpenSpec.ofChange identifyReadsSpec)) identifyReadsCard

/-- THE TIED CARD OF 'capsulelaw23.LogpageErrors'. -/
def logpageErrorsCard : Claim7 := { stood := { row := logpageErrorsRow, standIns := [], harness := (true, "ed506850771ae5c20774d7b059f02751ef7124a8c6242637b19bb2920f3d3e66"), looks := false }, kinds := [], alts := [], laidByText := true, laidKinds := [.data, .listed, .data, .pinned], laidTests := true, laidLooks := .later }
def LogpageErrorsCardSaid : Prop := Claim7.holds Tryd.pinned (.plain (OpenSpec.ofChange logpageErrorsSpec)) logpageErrorsCard

/-- THE TIED CARD OF 'capsulelaw24.IdentifyBack'. -/
def identifyBackCard : Claim7 := { stood := { row := identifyBackRow, standIns := [], harness := (true, "ed506850771ae5c20774d7b059f02751ef7124a8c6242637b19bb2920f3d3e66"), looks := false }, kinds := [], alts := [], laidByText := true, laidKinds := [.data, .pinned], laidTests := true, laidLooks := .later }
def IdentifyBackCardSaid : Prop := Claim7.holds Tryd.pinned (.plain (OpenSpec.ofChange identifyBackSpec)) identifyBackCard

/-- THE TIED CARD OF 'capsulelaw23.LogpageNamespaces'. -/
def logpageNamespacesCard : Claim7 := { stood := { row := logpageNamespacesRow, standIns := [], harness := (true, "ed506850771ae5c20774d7b059f02751ef7124a8c6242637b19bb2920f3d3e66"), looks := false }, kinds := [], alts := [], laidByText := true, laidKinds := [.data, .listed, .data, .pinned], laidTests := true, laidLooks := .later }
def LogpageNamespacesCardSaid : Prop := Claim7.holds Tryd.pinned (.plain (OpenSpec.ofChange logpageNamespacesSpec)) logpageNamespacesCard

/-- THE TIED CARD OF 'capsulelaw23.LogpageEntries'. -/
def logpageEntriesCard : Claim7 := { stood := { row := logpageEntriesRow, standIns := [], harness := (true, "ed506850771ae5c20774d7b059f02751ef7124a8c6242637b19bb2920f3d3e66"), looks := false }, kinds := [], alts := [], laidByText := true, laidKinds := [.data, .listed, .data, .pinned], laidTests := true, laidLooks := .later }
def LogpageEntriesCardSaid : Prop := Claim7.holds Tryd.pinned (.plain (OpenSpec.ofChange logpageEntriesSpec)) logpageEntriesCard

/-- THE TIED CARD OF 'capsulelaw23.LogpageEffects'. -/
def logpageEffectsCard : Claim7 := { stood := { row := logpageEffectsRow, standIns := [], harness := (true, "ed506850771ae5c20774d7b059f02751ef7124a8c6242637b19bb2920f3d3e66"), looks := false }, kinds := [], alts := [], laidByText := true, laidKinds := [.data, .listed, .data, .pinned], laidTests := true, laidLooks := .later }
def LogpageEffectsCardSaid : Prop := Claim7.holds Tryd.pinned (.plain (OpenSpec.ofChange logpageEffectsSpec)) logpageEffectsCard

/-- THE TIED CARD OF 'capsulelaw23.LogpageNotices'. -/
def logpageNoticesCard : Claim7 := { stood := { row := logpageNoticesRow, standIns := [], harness := (true, "ed506850771ae5c20774d7b059f02751ef7124a8c6242637b19bb2920f3d3e66"), looks := false }, kinds := [], alts := [], laidByText := true, laidKinds := [.data, .listed, .data, .pinned], laidTests := true, laidLooks := .later }
def LogpageNoticesCardSaid : Prop := Claim7.holds Tryd.pinned (.plain (OpenSpec.ofChange logpageNoticesSpec)) logpageNoticesCard

/-- THE TIED CARD OF 'capsulelaw23.LogpageZones'. -/
def logpageZonesCard : Claim7 := { stood := { row := logpageZonesRow, standIns := [], harness := (true, "ed506850771ae5c20774d7b059f02751ef7124a8c6242637b19bb2920f3d3e66"), looks := false }, kinds := [], alts := [], laidByText := true, laidKinds := [.data, .listed, .data, .pinned], laidTests := true, laidLooks := .later }
def LogpageZonesCardSaid : Prop := Claim7.holds Tryd.pinned (.plain (OpenSpec.ofChange logpageZonesSpec)) logpageZonesCard

/-- THE TIED CARD OF 'capsulelaw23.LogpageHealths'. -/
def logpageHealthsCard : Claim7 := { stood := { row := logpageHealthsRow, standIns := [], harness := (true, "ed506850771ae5c20774d7b059f02751ef7124a8c6242637b19bb2920f3d3e66"), looks := false }, kinds := [], alts := [], laidByText := true, laidKinds := [.data, .listed, .data, .pinned], laidTests := true, laidLooks := .later }
def LogpageHealthsCardSaid : Prop := Claim7.holds Tryd.pinned (.plain (OpenSpec.ofChange logpageHealthsSpec)) logpageHealthsCard

/-- THE SECOND FORM's CARD OF 'capsulelaw23.LogpageSlices'. -/
def logpageSlicesUptoCard : Claim7 := { stood := { row := logpageSlicesUptoRow, standIns := [], harness := (true, "ed506850771ae5c20774d7b059f02751ef7124a8c6242637b19bb2920f3d3e66"), looks := false }, kinds := [], alts := [], laidByText := true, laidKinds := [.data, .listed, .data, .pinned], laidTests := true, laidLooks := .later }
def LogpageSlicesUptoCardSaid : Prop := Claim7.holds Tryd.pinned (.plain (OpenSpec.upto logpageSlicesSpec)) logpageSlicesUptoCard

/-- THE SECOND FORM's CARD OF 'capsulelaw24.IdentifyReads'. -/
def identifyReadsUptoCard : Claim7 := { stood := { row := identifyReadsUptoRow, standIns := [], harness := (true, "ed506850771ae5c20774d7b059f02751ef7124a8c6242637b19bb2920f3d3e66"), looks := false }, kinds := [], alts := [], laidByText := true, laidKinds := [.data, .pinned], laidTests := true, laidLooks := .later }
def IdentifyReadsUptoCardSaid : Prop := Claim7.holds Tryd.pinned (.plain (OpenSpec.upto identifyReadsSpec)) identifyReadsUptoCard

/-- THE SECOND FORM's CARD OF 'capsulelaw23.LogpageErrors'. -/
def logpageErrorsUptoCard : Claim7 := { stood := { row := logpageErrorsUptoRow, standIns := [], harness := (true, "ed506850771ae5c20774d7b059f02751ef7124a8c6242637b19bb2920f3d3e66"), looks := false }, kinds := [], alts := [], laidByText := true, laidKinds := [.data, .listed, .data, .pinned], laidTests := true, laidLooks := .later }
def LogpageErrorsUptoCardSaid : Prop := Claim7.holds Tryd.pinned (.plain (OpenSpec.upto logpageErrorsSpec)) logpageErrorsUptoCard

/-- THE SECOND FORM's CARD OF 'capsulelaw24.IdentifyBack'. -/
def identifyBackUptoCard : Claim7 := { stood := { row := identifyBackUptoRow, standIns := [], harness := (true, "ed506850771ae5c20774d7b059f02751ef7124a8c6242637b19bb2920f3d3e66"), looks := false }, kinds := [], alts := [], laidByText := true, laidKinds := [.data, .pinned], laidTests := true, laidLooks := .later }
def IdentifyBackUptoCardSaid : Prop := Claim7.holds Tryd.pinned (.plain (OpenSpec.upto identifyBackSpec)) identifyBackUptoCard

/-- THE SECOND FORM's CARD OF 'capsulelaw23.LogpageNamespaces'. -/
def logpageNamespacesUptoCard : Claim7 := { stood := { row := logpageNamespacesUptoRow, standIns := [], harness := (true, "ed506850771ae5c20774d7b059f02751ef7124a8c6242637b19bb2920f3d3e66"), looks := false }, kinds := [], alts := [], laidByText := true, laidKinds := [.data, .listed, .data, .pinned], laidTests := true, laidLooks := .later }
def LogpageNamespacesUptoCardSaid : Prop := Claim7.holds Tryd.pinned (.plain (OpenSpec.upto logpageNamespacesSpec)) logpageNamespacesUptoCard

/-- THE SECOND FORM's CARD OF 'capsulelaw23.LogpageEntries'. -/
def logpageEntriesUptoCard : Claim7 := { stood := { row := logpageEntriesUptoRow, standIns := [], harness := (true, "ed506850771ae5c20774d7b059f02751ef7124a8c6242637b19bb2920f3d3e66"), looks := false }, kinds := [], alts := [], laidByText := true, laidKinds := [.data, .listed, .data, .pinned], laidTests := true, laidLooks := .later }
def LogpageEntriesUptoCardSaid : Prop := Claim7.holds Tryd.pinned (.plain (OpenSpec.upto logpageEntriesSpec)) logpageEntriesUptoCard

/-- THE SECOND FORM's CARD OF 'capsulelaw23.LogpageEffects'. -/
def logpageEffectsUptoCard : Claim7 := { stood := { row := logpageEffectsUptoRow, standIns := [], harness := (true, "ed506850771ae5c20774d7b059f02751ef7124a8c6242637b19bb2920f3d3e66"), looks := false }, kinds := [], alts := [], laidByText := true, laidKinds := [.data, .listed, .data, .pinned], laidTests := true, laidLooks := .later }
def LogpageEffectsUptoCardSaid : Prop := Claim7.holds Tryd.pinned (.plain (OpenSpec.upto logpageEffectsSpec)) logpageEffectsUptoCard

/-- THE SECOND FORM's CARD OF 'capsulelaw23.LogpageNotices'. -/
def logpageNoticesUptoCard : Claim7 := { stood := { row := logpageNoticesUptoRow, standIns := [], harness := (true, "ed506850771ae5c20774d7b059f02751ef7124a8c6242637b19bb2920f3d3e66"), looks := false }, kinds := [], alts := [], laidByText := true, laidKinds := [.data, .listed, .data, .pinned], laidTests := true, laidLooks := .later }
def LogpageNoticesUptoCardSaid : Prop := Claim7.holds Tryd.pinned (.plain (OpenSpec.upto logpageNoticesSpec)) logpageNoticesUptoCard

/-- THE SECOND FORM's CARD OF 'capsulelaw23.LogpageZones'. -/
def logpageZonesUptoCard : Claim7 := { stood := { row := logpageZonesUptoRow, standIns := [], harness := (true, "ed506850771ae5c20774d7b059f02751ef7124a8c6242637b19bb2920f3d3e66"), looks := false }, kinds := [], alts := [], laidByText := true, laidKinds := [.data, .listed, .data, .pinned], laidTests := true, laidLooks := .later }
def LogpageZonesUptoCardSaid : Prop := Claim7.holds Tryd.pinned (.plain (OpenSpec.upto logpageZonesSpec)) logpageZonesUptoCard

/-- THE SECOND FORM's CARD OF 'capsulelaw23.LogpageHealths'. -/
def logpageHealthsUptoCard : Claim7 := { stood := { row := logpageHealthsUptoRow, standIns := [], harness := (true, "ed506850771ae5c20774d7b059f02751ef7124a8c6242637b19bb2920f3d3e66"), looks := false }, kinds := [], alts := [], laidByText := true, laidKinds := [.data, .listed, .data, .pinned], laidTests := true, laidLooks := .later }
def LogpageHealthsUptoCardSaid : Prop := Claim7.holds Tryd.pinned (.plain (OpenSpec.upto logpageHealthsSpec)) logpageHealthsUptoCard
end Rows
end Go.Proofs.YthnnopjakpjoeaaDoor
