/-
  DERIVED. GIVEN WITH THE SEED: THE CARDS: each row of YtdbomjjhpidajaaGreatDoorRows.lean that lists a variable, with what it lists TIED to the program's text (the seventh form; the later family's looks); each row that meets fmt, with fmt's text TOLD by the authors' own Lean function (tested against real Go, not proved from fmt's source: count such statements apart). THE CARD IS WHAT COUNTS. Prove the row's statement (the work); the ties are given (YtdbomjjhpidajaaGreatDoorTie.lean); close each card by the builder's one call (the guide's Derived/Test/ToyasCard.lean, 'card_holds'). Laid BY PROGRAM, IN A SANDBOX (cutbox-door.mjs). By AI agents, Wed Nov 11 2026. No macro, syntax, notation, axiom, sorry.
-/
import Derived.Test.YtdbomjjhpidajaaGreatDoorRows
import GoSem.ClaimSeven
namespace Go.Proofs.YtdbomjjhpidajaaGreatDoor
namespace Rows

/-- THE TIED CARD OF 'parltop.TopBackward'. -/
def topBackwardCard : Claim7 := { stood := { row := topBackwardRow, standIns := [], harness := (true, "9196e5b5696f27dadc953ffb94febb4d0178aa8fa699b012708734e0db1c6650"), looks := true }, kinds := [], alts := [], laidByText := true, laidKinds := [.data], laidTests := true, laidLooks := .later }
def TopBackwardCardSaid : Prop := Claim7.holds Tryz.pinned (.plain (OpenSpec.ofChange topBackwardSpec)) topBackwardCard

/-- THE TIED CARD OF 'parltop.TopLogic'. -/
def topLogicCard : Claim7 := { stood := { row := topLogicRow, standIns := [], harness := (true, "9196e5b5696f27dadc953ffb94febb4d0178aa8fa699b012708734e0db1c6650"), looks := true }, kinds := [], alts := [], laidByText := true, laidKinds := [.data], laidTests := true, laidLooks := .later }
def TopLogicCardSaid : Prop := Claim7.holds Tryz.pinned (.plain (OpenSpec.ofChange topLogicSpec)) topLogicCard

/-- THE TIED CARD OF 'parltop.TopWays'. -/
def topWaysCard : Claim7 := { stood := { row := topWaysRow, standIns := [], harness := (true, "9196e5b5696f27dadc953ffb94febb4d0178aa8fa699b012708734e0db1c6650"), looks := true }, kinds := [], alts := [], laidByText := true, laidKinds := [.data], laidTests := true, laidLooks := .later }
def TopWaysCardSaid : Prop := Claim7.holds Tryz.pinned (.plain (OpenSpec.ofChange topWaysSpec)) topWaysCard

/-- THE TIED CARD OF 'parltop.TopCanonical'. -/
def topCanonicalCard : Claim7 := { stood := { row := topCanonicalRow, standIns := [], harness := (true, "9196e5b5696f27dadc953ffb94febb4d0178aa8fa699b012708734e0db1c6650"), looks := true }, kinds := [], alts := [], laidByText := true, laidKinds := [.data], laidTests := true, laidLooks := .later }
def TopCanonicalCardSaid : Prop := Claim7.holds Tryz.pinned (.plain (OpenSpec.ofChange topCanonicalSpec)) topCanonicalCard

/-- THE SECOND FORM's CARD OF 'parltop.TopBackward'. -/
def topBackwardUptoCard : Claim7 := { stood := { row := topBackwardUptoRow, standIns := [], harness := (true, "9196e5b5696f27dadc953ffb94febb4d0178aa8fa699b012708734e0db1c6650"), looks := true }, kinds := [], alts := [], laidByText := true, laidKinds := [.data], laidTests := true, laidLooks := .later }
def TopBackwardUptoCardSaid : Prop := Claim7.holds Tryz.pinned (.plain (OpenSpec.upto topBackwardSpec)) topBackwardUptoCard

/-- THE SECOND FORM's CARD OF 'parltop.TopLogic'. -/
def topLogicUptoCard : Claim7 := { stood := { row := topLogicUptoRow, standIns := [], harness := (true, "9196e5b5696f27dadc953ffb94febb4d0178aa8fa699b012708734e0db1c6650"), looks := true }, kinds := [], alts := [], laidByText := true, laidKinds := [.data], laidTests := true, laidLooks := .later }
def TopLogicUptoCardSaid : Prop := Claim7.holds Tryz.pinned (.plain (OpenSpec.upto topLogicSpec)) topLogicUptoCard

/-- THE SECOND FORM's CARD OF 'parltop.TopWays'. -/
def topWaysUptoCard : Claim7 := { stood := { row := topWaysUptoRow, standIns := [], harness := (true, "9196e5b5696f27dadc953ffb94febb4d0178aa8fa699b012708734e0db1c6650"), looks := true }, kinds := [], alts := [], laidByText := true, laidKinds := [.data], laidTests := true, laidLooks := .later }
def TopWaysUptoCardSaid : Prop := Claim7.holds Tryz.pinned (.plain (OpenSpec.upto topWaysSpec)) topWaysUptoCard

/-- THE SECOND FORM's CARD OF 'parltop.TopCanonical'. -/
def topCanonicalUptoCard : Claim7 := { stood := { row := topCanonicalUptoRow, standIns := [], harness := (true, "9196e5b5696f27dadc953ffb94febb4d0178aa8fa699b012708734e0db1c6650"), looks := true }, kinds := [], alts := [], laidByText := true, laidKinds := [.data], laidTests := true, laidLooks := .later }
def TopCanonicalUptoCardSaid : Prop := Claim7.holds Tryz.pinned (.plain (OpenSpec.upto topCanonicalSpec)) topCanonicalUptoCard
end Rows
end Go.Proofs.YtdbomjjhpidajaaGreatDoor
