/-
  DERIVED. GIVEN WITH THE SEED: THE CARDS: each row of YtahjkibjcibpgaaGreatDoorRows.lean that lists a variable, with what it lists TIED to the program's text (the seventh form; the later family's looks); each row that meets fmt, with fmt's text TOLD by the authors' own Lean function (tested against real Go, not proved from fmt's source: count such statements apart). THE CARD IS WHAT COUNTS. Prove the row's statement (the work); the ties are given (YtahjkibjcibpgaaGreatDoorTie.lean); close each card by the builder's one call (the guide's Derived/Test/ToyasCard.lean, 'card_holds'). Laid BY PROGRAM, IN A SANDBOX (cutbox-door.mjs). By AI agents, Wed Nov 11 2026. No macro, syntax, notation, axiom, sorry.
-/
import Derived.Test.YtahjkibjcibpgaaGreatDoorRows
import GoSem.ClaimSeven
namespace Go.Proofs.YtahjkibjcibpgaaGreatDoor
namespace Rows

/-- THE TIED CARD OF 'bournelaw15.TreeBack'. -/
def treeBackCard : Claim7 := { stood := { row := treeBackRow, standIns := [], harness := (true, "4a53527b76b86239758d425f560892dfc26c878001e6735e4fe53c244043c412"), looks := true }, kinds := [], alts := [], laidByText := true, laidKinds := [.data, .data, .data, .data, .sentinel, .sentinel, .data, .pinned], laidTests := true, laidLooks := .later }
def TreeBackCardSaid : Prop := Claim7.holds Tryz.pinned (.plain (OpenSpec.ofChange treeBackSpec)) treeBackCard

/-- THE TIED CARD OF 'bournelaw15.TreeReads'. -/
def treeReadsCard : Claim7 := { stood := { row := treeReadsRow, standIns := [], harness := (true, "4a53527b76b86239758d425f560892dfc26c878001e6735e4fe53c244043c412"), looks := true }, kinds := [], alts := [], laidByText := true, laidKinds := [.data, .data, .data, .data, .sentinel, .sentinel, .data, .pinned], laidTests := true, laidLooks := .later }
def TreeReadsCardSaid : Prop := Claim7.holds Tryz.pinned (.plain (OpenSpec.ofChange treeReadsSpec)) treeReadsCard

/-- THE TIED CARD OF 'bournelaw15.TreeFails'. -/
def treeFailsCard : Claim7 := { stood := { row := treeFailsRow, standIns := [], harness := (true, "4a53527b76b86239758d425f560892dfc26c878001e6735e4fe53c244043c412"), looks := true }, kinds := [], alts := [], laidByText := true, laidKinds := [.data, .data, .data, .data, .sentinel, .sentinel, .data, .pinned], laidTests := true, laidLooks := .later }
def TreeFailsCardSaid : Prop := Claim7.holds Tryz.pinned (.plain (OpenSpec.ofChange treeFailsSpec)) treeFailsCard

/-- THE TIED CARD OF 'bournelaw15.TreeUnits'. -/
def treeUnitsCard : Claim7 := { stood := { row := treeUnitsRow, standIns := [], harness := (true, "4a53527b76b86239758d425f560892dfc26c878001e6735e4fe53c244043c412"), looks := true }, kinds := [], alts := [], laidByText := true, laidKinds := [.data, .data, .data, .data, .sentinel, .sentinel, .data, .pinned], laidTests := true, laidLooks := .later }
def TreeUnitsCardSaid : Prop := Claim7.holds Tryz.pinned (.plain (OpenSpec.ofChange treeUnitsSpec)) treeUnitsCard

/-- THE TIED CARD OF 'bournelaw15.TreeAts'. -/
def treeAtsCard : Claim7 := { stood := { row := treeAtsRow, standIns := [], harness := (true, "4a53527b76b86239758d425f560892dfc26c878001e6735e4fe53c244043c412"), looks := true }, kinds := [], alts := [], laidByText := true, laidKinds := [.data, .data, .data, .data, .sentinel, .sentinel, .data, .pinned], laidTests := true, laidLooks := .later }
def TreeAtsCardSaid : Prop := Claim7.holds Tryz.pinned (.plain (OpenSpec.ofChange treeAtsSpec)) treeAtsCard

/-- THE SECOND FORM's CARD OF 'bournelaw15.TreeBack'. -/
def treeBackUptoCard : Claim7 := { stood := { row := treeBackUptoRow, standIns := [], harness := (true, "4a53527b76b86239758d425f560892dfc26c878001e6735e4fe53c244043c412"), looks := true }, kinds := [], alts := [], laidByText := true, laidKinds := [.data, .data, .data, .data, .sentinel, .sentinel, .data, .pinned], laidTests := true, laidLooks := .later }
def TreeBackUptoCardSaid : Prop := Claim7.holds Tryz.pinned (.plain (OpenSpec.upto treeBackSpec)) treeBackUptoCard

/-- THE SECOND FORM's CARD OF 'bournelaw15.TreeReads'. -/
def treeReadsUptoCard : Claim7 := { stood := { row := treeReadsUptoRow, standIns := [], harness := (true, "4a53527b76b86239758d425f560892dfc26c878001e6735e4fe53c244043c412"), looks := true }, kinds := [], alts := [], laidByText := true, laidKinds := [.data, .data, .data, .data, .sentinel, .sentinel, .data, .pinned], laidTests := true, laidLooks := .later }
def TreeReadsUptoCardSaid : Prop := Claim7.holds Tryz.pinned (.plain (OpenSpec.upto treeReadsSpec)) treeReadsUptoCard

/-- THE SECOND FORM's CARD OF 'bournelaw15.TreeFails'. -/
def treeFailsUptoCard : Claim7 := { stood := { row := treeFailsUptoRow, standIns := [], harness := (true, "4a53527b76b86239758d425f560892dfc26c878001e6735e4fe53c244043c412"), looks := true }, kinds := [], alts := [], laidByText := true, laidKinds := [.data, .data, .data, .data, .sentinel, .sentinel, .data, .pinned], laidTests := true, laidLooks := .later }
def TreeFailsUptoCardSaid : Prop := Claim7.holds Tryz.pinned (.plain (OpenSpec.upto treeFailsSpec)) treeFailsUptoCard

/-- THE SECOND FORM's CARD OF 'bournelaw15.TreeUnits'. -/
def treeUnitsUptoCard : Claim7 := { stood := { row := treeUnitsUptoRow, standIns := [], harness := (true, "4a53527b76b86239758d425f560892dfc26c878001e6735e4fe53c244043c412"), looks := true }, kinds := [], alts := [], laidByText := true, laidKinds := [.data, .data, .data, .data, .sentinel, .sentinel, .data, .pinned], laidTests := true, laidLooks := .later }
def TreeUnitsUptoCardSaid : Prop := Claim7.holds Tryz.pinned (.plain (OpenSpec.upto treeUnitsSpec)) treeUnitsUptoCard

/-- THE SECOND FORM's CARD OF 'bournelaw15.TreeAts'. -/
def treeAtsUptoCard : Claim7 := { stood := { row := treeAtsUptoRow, standIns := [], harness := (true, "4a53527b76b86239758d425f560892dfc26c878001e6735e4fe53c244043c412"), looks := true }, kinds := [], alts := [], laidByText := true, laidKinds := [.data, .data, .data, .data, .sentinel, .sentinel, .data, .pinned], laidTests := true, laidLooks := .later }
def TreeAtsUptoCardSaid : Prop := Claim7.holds Tryz.pinned (.plain (OpenSpec.upto treeAtsSpec)) treeAtsUptoCard
end Rows
end Go.Proofs.YtahjkibjcibpgaaGreatDoor
