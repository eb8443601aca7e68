/-
  DERIVED. GIVEN WITH THE SEED: THE CARDS: each row of YtgelnfllojinbaaGreatDoorRows.lean that lists a variable, with what it lists TIED to the program's text (the seventh form; the later family's looks); each row that meets fmt, with fmt's text TOLD by the authors' own Lean function (tested against real Go, not proved from fmt's source: count such statements apart). THE CARD IS WHAT COUNTS. Prove the row's statement (the work); the ties are given (YtgelnfllojinbaaGreatDoorTie.lean); close each card by the builder's one call (the guide's Derived/Test/ToyasCard.lean, 'card_holds'). Laid BY PROGRAM, IN A SANDBOX (cutbox-door.mjs). By AI agents, Wed Nov 11 2026. No macro, syntax, notation, axiom, sorry.
-/
import Derived.Test.YtgelnfllojinbaaGreatDoorRows
import GoSem.ClaimSeven
namespace Go.Proofs.YtgelnfllojinbaaGreatDoor
namespace Rows

/-- THE TIED CARD OF 'parllaw1.RetextPrints'. -/
def retextPrintsCard : Claim7 := { stood := { row := retextPrintsRow, standIns := [], harness := (true, "5c7294defd5dfc88b0c159f39d5c84c07674ad72aa0dd99e866c49d189b6253e"), looks := true }, kinds := [], alts := [], laidByText := true, laidKinds := [.data, .data, .data, .data, .handle, .sentinel, .sentinel, .pinned], laidTests := true, laidLooks := .later }
def RetextPrintsCardSaid : Prop := Claim7.holds Tryz.pinned (.plain (OpenSpec.ofChange retextPrintsSpec)) retextPrintsCard

/-- THE TIED CARD OF 'parlkeep1.RetextBack'. -/
def retextBackCard : Claim7 := { stood := { row := retextBackRow, standIns := [], harness := (true, "5c7294defd5dfc88b0c159f39d5c84c07674ad72aa0dd99e866c49d189b6253e"), looks := true }, kinds := [], alts := [], laidByText := true, laidKinds := [.data, .data, .data, .data, .handle, .sentinel, .sentinel, .pinned], laidTests := true, laidLooks := .later }
def RetextBackCardSaid : Prop := Claim7.holds Tryz.pinned (.plain (OpenSpec.ofChange retextBackSpec)) retextBackCard

/-- THE TIED CARD OF 'parlkeep1.RetextOnce'. -/
def retextOnceCard : Claim7 := { stood := { row := retextOnceRow, standIns := [], harness := (true, "5c7294defd5dfc88b0c159f39d5c84c07674ad72aa0dd99e866c49d189b6253e"), looks := true }, kinds := [], alts := [], laidByText := true, laidKinds := [.data, .data, .data, .data, .handle, .sentinel, .sentinel, .pinned], laidTests := true, laidLooks := .later }
def RetextOnceCardSaid : Prop := Claim7.holds Tryz.pinned (.plain (OpenSpec.ofChange retextOnceSpec)) retextOnceCard

/-- THE TIED CARD OF 'parllaw1.RetextReads'. -/
def retextReadsCard : Claim7 := { stood := { row := retextReadsRow, standIns := [], harness := (true, "5c7294defd5dfc88b0c159f39d5c84c07674ad72aa0dd99e866c49d189b6253e"), looks := true }, kinds := [], alts := [], laidByText := true, laidKinds := [.data, .data, .data, .data, .handle, .sentinel, .sentinel, .pinned], laidTests := true, laidLooks := .later }
def RetextReadsCardSaid : Prop := Claim7.holds Tryz.pinned (.plain (OpenSpec.ofChange retextReadsSpec)) retextReadsCard

/-- THE SECOND FORM's CARD OF 'parllaw1.RetextPrints'. -/
def retextPrintsUptoCard : Claim7 := { stood := { row := retextPrintsUptoRow, standIns := [], harness := (true, "5c7294defd5dfc88b0c159f39d5c84c07674ad72aa0dd99e866c49d189b6253e"), looks := true }, kinds := [], alts := [], laidByText := true, laidKinds := [.data, .data, .data, .data, .handle, .sentinel, .sentinel, .pinned], laidTests := true, laidLooks := .later }
def RetextPrintsUptoCardSaid : Prop := Claim7.holds Tryz.pinned (.plain (OpenSpec.upto retextPrintsSpec)) retextPrintsUptoCard

/-- THE SECOND FORM's CARD OF 'parlkeep1.RetextBack'. -/
def retextBackUptoCard : Claim7 := { stood := { row := retextBackUptoRow, standIns := [], harness := (true, "5c7294defd5dfc88b0c159f39d5c84c07674ad72aa0dd99e866c49d189b6253e"), looks := true }, kinds := [], alts := [], laidByText := true, laidKinds := [.data, .data, .data, .data, .handle, .sentinel, .sentinel, .pinned], laidTests := true, laidLooks := .later }
def RetextBackUptoCardSaid : Prop := Claim7.holds Tryz.pinned (.plain (OpenSpec.upto retextBackSpec)) retextBackUptoCard

/-- THE SECOND FORM's CARD OF 'parlkeep1.RetextOnce'. -/
def retextOnceUptoCard : Claim7 := { stood := { row := retextOnceUptoRow, standIns := [], harness := (true, "5c7294defd5dfc88b0c159f39d5c84c07674ad72aa0dd99e866c49d189b6253e"), looks := true }, kinds := [], alts := [], laidByText := true, laidKinds := [.data, .data, .data, .data, .handle, .sentinel, .sentinel, .pinned], laidTests := true, laidLooks := .later }
def RetextOnceUptoCardSaid : Prop := Claim7.holds Tryz.pinned (.plain (OpenSpec.upto retextOnceSpec)) retextOnceUptoCard

/-- THE SECOND FORM's CARD OF 'parllaw1.RetextReads'. -/
def retextReadsUptoCard : Claim7 := { stood := { row := retextReadsUptoRow, standIns := [], harness := (true, "5c7294defd5dfc88b0c159f39d5c84c07674ad72aa0dd99e866c49d189b6253e"), looks := true }, kinds := [], alts := [], laidByText := true, laidKinds := [.data, .data, .data, .data, .handle, .sentinel, .sentinel, .pinned], laidTests := true, laidLooks := .later }
def RetextReadsUptoCardSaid : Prop := Claim7.holds Tryz.pinned (.plain (OpenSpec.upto retextReadsSpec)) retextReadsUptoCard
end Rows
end Go.Proofs.YtgelnfllojinbaaGreatDoor
