/-
  DERIVED. GIVEN WITH THE SEED: THE CARDS: each row of YtahjkibjcibpgaaDoorRows.lean that lists a variable, with what it lists TIED to the program's text (the seventh form; the later family's looks); each row that meets fmt, with fmt's text TOLD by the authors' own Lean function (tested against real Go, not proved from fmt's source: count such statements apart). THE CARD IS WHAT COUNTS. Prove the row's statement (the work); the ties are given (YtahjkibjcibpgaaDoorTie.lean); close each card by the builder's one call (the guide's Derived/Test/ToyasCard.lean, 'card_holds'). Laid BY PROGRAM, IN A SANDBOX (cutbox-door.mjs). By AI agents, Wed Nov 11 2026. No macro, syntax, notation, axiom, sorry.
-/
import Derived.Test.YtahjkibjcibpgaaDoorRows
import GoSem.ClaimSeven
namespace Go.Proofs.YtahjkibjcibpgaaDoor
namespace Rows

/-- THE TIED CARD OF 'bournelaw14.UnitTells'. -/
def unitTellsCard : Claim7 := { stood := { row := unitTellsRow, standIns := [], harness := (true, "2663914e09d31e6547073d1d0e78d29289829145631f3ad3ed2caf3cfe1db8ad"), looks := true }, kinds := [], alts := [], laidByText := true, laidKinds := [.data, .data, .data, .data, .sentinel, .sentinel, .data, .pinned], laidTests := true, laidLooks := .later }
def UnitTellsCardSaid : Prop := Claim7.holds Tryd.pinned (.plain (OpenSpec.ofChange unitTellsSpec)) unitTellsCard

/-- THE TIED CARD OF 'bournelaw14.UnitBack'. -/
def unitBackCard : Claim7 := { stood := { row := unitBackRow, standIns := [], harness := (true, "2663914e09d31e6547073d1d0e78d29289829145631f3ad3ed2caf3cfe1db8ad"), looks := true }, kinds := [], alts := [], laidByText := true, laidKinds := [.data, .data, .data, .data, .sentinel, .sentinel, .data, .pinned], laidTests := true, laidLooks := .later }
def UnitBackCardSaid : Prop := Claim7.holds Tryd.pinned (.plain (OpenSpec.ofChange unitBackSpec)) unitBackCard

/-- THE TIED CARD OF 'bournelaw14.UnitZeros'. -/
def unitZerosCard : Claim7 := { stood := { row := unitZerosRow, standIns := [], harness := (true, "2663914e09d31e6547073d1d0e78d29289829145631f3ad3ed2caf3cfe1db8ad"), looks := true }, kinds := [], alts := [], laidByText := true, laidKinds := [.data, .data, .data, .data, .sentinel, .sentinel, .data, .pinned], laidTests := true, laidLooks := .later }
def UnitZerosCardSaid : Prop := Claim7.holds Tryd.pinned (.plain (OpenSpec.ofChange unitZerosSpec)) unitZerosCard

/-- THE TIED CARD OF 'bournelaw14.UnitRatios'. -/
def unitRatiosCard : Claim7 := { stood := { row := unitRatiosRow, standIns := [], harness := (true, "2663914e09d31e6547073d1d0e78d29289829145631f3ad3ed2caf3cfe1db8ad"), looks := true }, kinds := [], alts := [], laidByText := true, laidKinds := [.data, .data, .data, .data, .sentinel, .sentinel, .data, .pinned], laidTests := true, laidLooks := .later }
def UnitRatiosCardSaid : Prop := Claim7.holds Tryd.pinned (.plain (OpenSpec.ofChange unitRatiosSpec)) unitRatiosCard

/-- THE TIED CARD OF 'bournelaw14.UnitAdds'. -/
def unitAddsCard : Claim7 := { stood := { row := unitAddsRow, standIns := [], harness := (true, "2663914e09d31e6547073d1d0e78d29289829145631f3ad3ed2caf3cfe1db8ad"), looks := true }, kinds := [], alts := [], laidByText := true, laidKinds := [.data, .data, .data, .data, .sentinel, .sentinel, .data, .pinned], laidTests := true, laidLooks := .later }
def UnitAddsCardSaid : Prop := Claim7.holds Tryd.pinned (.plain (OpenSpec.ofChange unitAddsSpec)) unitAddsCard

/-- THE SECOND FORM's CARD OF 'bournelaw14.UnitTells'. -/
def unitTellsUptoCard : Claim7 := { stood := { row := unitTellsUptoRow, standIns := [], harness := (true, "2663914e09d31e6547073d1d0e78d29289829145631f3ad3ed2caf3cfe1db8ad"), looks := true }, kinds := [], alts := [], laidByText := true, laidKinds := [.data, .data, .data, .data, .sentinel, .sentinel, .data, .pinned], laidTests := true, laidLooks := .later }
def UnitTellsUptoCardSaid : Prop := Claim7.holds Tryd.pinned (.plain (OpenSpec.upto unitTellsSpec)) unitTellsUptoCard

/-- THE SECOND FORM's CARD OF 'bournelaw14.UnitBack'. -/
def unitBackUptoCard : Claim7 := { stood := { row := unitBackUptoRow, standIns := [], harness := (true, "2663914e09d31e6547073d1d0e78d29289829145631f3ad3ed2caf3cfe1db8ad"), looks := true }, kinds := [], alts := [], laidByText := true, laidKinds := [.data, .data, .data, .data, .sentinel, .sentinel, .data, .pinned], laidTests := true, laidLooks := .later }
def UnitBackUptoCardSaid : Prop := Claim7.holds Tryd.pinned (.plain (OpenSpec.upto unitBackSpec)) unitBackUptoCard

/-- THE SECOND FORM's CARD OF 'bournelaw14.UnitZeros'. -/
def unitZerosUptoCard : Claim7 := { stood := { row := unitZerosUptoRow, standIns := [], harness := (true, "2663914e09d31e6547073d1d0e78d29289829145631f3ad3ed2caf3cfe1db8ad"), looks := true }, kinds := [], alts := [], laidByText := true, laidKinds := [.data, .data, .data, .data, .sentinel, .sentinel, .data, .pinned], laidTests := true, laidLooks := .later }
def UnitZerosUptoCardSaid : Prop := Claim7.holds Tryd.pinned (.plain (OpenSpec.upto unitZerosSpec)) unitZerosUptoCard

/-- THE SECOND FORM's CARD OF 'bournelaw14.UnitRatios'. -/
def unitRatiosUptoCard : Claim7 := { stood := { row := unitRatiosUptoRow, standIns := [], harness := (true, "2663914e09d31e6547073d1d0e78d29289829145631f3ad3ed2caf3cfe1db8ad"), looks := true }, kinds := [], alts := [], laidByText := true, laidKinds := [.data, .data, .data, .data, .sentinel, .sentinel, .data, .pinned], laidTests := true, laidLooks := .later }
def UnitRatiosUptoCardSaid : Prop := Claim7.holds Tryd.pinned (.plain (OpenSpec.upto unitRatiosSpec)) unitRatiosUptoCard

/-- THE SECOND FORM's CARD OF 'bournelaw14.UnitAdds'. -/
def unitAddsUptoCard : Claim7 := { stood := { row := unitAddsUptoRow, standIns := [], harness := (true, "2663914e09d31e6547073d1d0e78d29289829145631f3ad3ed2caf3cfe1db8ad"), looks := true }, kinds := [], alts := [], laidByText := true, laidKinds := [.data, .data, .data, .data, .sentinel, .sentinel, .data, .pinned], laidTests := true, laidLooks := .later }
def UnitAddsUptoCardSaid : Prop := Claim7.holds Tryd.pinned (.plain (OpenSpec.upto unitAddsSpec)) unitAddsUptoCard
end Rows
end Go.Proofs.YtahjkibjcibpgaaDoor
