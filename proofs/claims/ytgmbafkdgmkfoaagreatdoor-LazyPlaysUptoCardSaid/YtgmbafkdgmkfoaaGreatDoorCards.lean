/-
  DERIVED. GIVEN WITH THE SEED: THE CARDS: each row of YtgmbafkdgmkfoaaGreatDoorRows.lean that lists a variable, with what it lists TIED to the program's text (the seventh form; the later family's looks); each row that meets fmt, with fmt's text TOLD by the authors' own Lean function (tested against real Go, not proved from fmt's source: count such statements apart). THE CARD IS WHAT COUNTS. Prove the row's statement (the work); the ties are given (YtgmbafkdgmkfoaaGreatDoorTie.lean); close each card by the builder's one call (the guide's Derived/Test/ToyasCard.lean, 'card_holds'). Laid BY PROGRAM, IN A SANDBOX (cutbox-door.mjs). By AI agents, Wed Nov 11 2026. No macro, syntax, notation, axiom, sorry.
-/
import Derived.Test.YtgmbafkdgmkfoaaGreatDoorRows
import GoSem.ClaimSeven
namespace Go.Proofs.YtgmbafkdgmkfoaaGreatDoor
namespace Rows

/-- THE TIED CARD OF 'parllaw1.LazyPlays'. -/
def lazyPlaysCard : Claim7 := { stood := { row := lazyPlaysRow, standIns := [], harness := (true, "2e7b5e06cf34c63099f4518fc24b743acaa22b4f04d9e8849bb81f5d830d40b2"), looks := true }, kinds := [], alts := [], laidByText := true, laidKinds := [.data, .data, .data], laidTests := true, laidLooks := .later }
def LazyPlaysCardSaid : Prop := Claim7.holds Tryz.pinned (.plain (OpenSpec.ofChange lazyPlaysSpec)) lazyPlaysCard

/-- THE TIED CARD OF 'parlkeep1.LazyAny'. -/
def lazyAnyCard : Claim7 := { stood := { row := lazyAnyRow, standIns := [], harness := (true, "2e7b5e06cf34c63099f4518fc24b743acaa22b4f04d9e8849bb81f5d830d40b2"), looks := true }, kinds := [], alts := [], laidByText := true, laidKinds := [.data, .data, .data], laidTests := true, laidLooks := .later }
def LazyAnyCardSaid : Prop := Claim7.holds Tryz.pinned (.plain (OpenSpec.ofChange lazyAnySpec)) lazyAnyCard

/-- THE SECOND FORM's CARD OF 'parllaw1.LazyPlays'. -/
def lazyPlaysUptoCard : Claim7 := { stood := { row := lazyPlaysUptoRow, standIns := [], harness := (true, "2e7b5e06cf34c63099f4518fc24b743acaa22b4f04d9e8849bb81f5d830d40b2"), looks := true }, kinds := [], alts := [], laidByText := true, laidKinds := [.data, .data, .data], laidTests := true, laidLooks := .later }
def LazyPlaysUptoCardSaid : Prop := Claim7.holds Tryz.pinned (.plain (OpenSpec.upto lazyPlaysSpec)) lazyPlaysUptoCard

/-- THE SECOND FORM's CARD OF 'parlkeep1.LazyAny'. -/
def lazyAnyUptoCard : Claim7 := { stood := { row := lazyAnyUptoRow, standIns := [], harness := (true, "2e7b5e06cf34c63099f4518fc24b743acaa22b4f04d9e8849bb81f5d830d40b2"), looks := true }, kinds := [], alts := [], laidByText := true, laidKinds := [.data, .data, .data], laidTests := true, laidLooks := .later }
def LazyAnyUptoCardSaid : Prop := Claim7.holds Tryz.pinned (.plain (OpenSpec.upto lazyAnySpec)) lazyAnyUptoCard
end Rows
end Go.Proofs.YtgmbafkdgmkfoaaGreatDoor
