/-
  DERIVED. GIVEN WITH THE SEED: THE CARDS: each row of YtgifkdbbgffemaaDoorRows.lean that lists a variable, with what it lists TIED to the program's text (the seventh form; the later family's looks); each row that meets fmt, with fmt's text TOLD by the authors' own Lean function (tested against real Go, not proved from fmt's source: count such statements apart). THE CARD IS WHAT COUNTS. Prove the row's statement (the work); the ties are given (YtgifkdbbgffemaaDoorTie.lean); close each card by the builder's one call (the guide's Derived/Test/ToyasCard.lean, 'card_holds'). Laid BY PROGRAM, IN A SANDBOX (cutbox-door.mjs). By AI agents, Wed Nov 11 2026. No macro, syntax, notation, axiom, sorry.
-/
import Derived.Test.YtgifkdbbgffemaaDoorRows
import GoSem.ClaimSeven
namespace Go.Proofs.YtgifkdbbgffemaaDoor
namespace Rows

/-- THE TIED CARD OF 'parlkeep1.CaptureLeft'. -/
def captureLeftCard : Claim7 := { stood := { row := captureLeftRow, standIns := [], harness := (true, "a4cad6f0cce36d1711d20589124aeafec96ab515187781600174a5c8a7514e2e"), looks := false }, kinds := [], alts := [], laidByText := true, laidKinds := [.data], laidTests := true, laidLooks := .later }
def CaptureLeftCardSaid : Prop := Claim7.holds Tryd.pinned (.plain (OpenSpec.ofChange captureLeftSpec)) captureLeftCard

/-- THE TIED CARD OF 'parlkeep1.RetreeFolds'. -/
def retreeFoldsCard : Claim7 := { stood := { row := retreeFoldsRow, standIns := [], harness := (true, "a4cad6f0cce36d1711d20589124aeafec96ab515187781600174a5c8a7514e2e"), looks := false }, kinds := [], alts := [], laidByText := true, laidKinds := [.data], laidTests := true, laidLooks := .later }
def RetreeFoldsCardSaid : Prop := Claim7.holds Tryd.pinned (.plain (OpenSpec.ofChange retreeFoldsSpec)) retreeFoldsCard

/-- THE SECOND FORM's CARD OF 'parlkeep1.CaptureLeft'. -/
def captureLeftUptoCard : Claim7 := { stood := { row := captureLeftUptoRow, standIns := [], harness := (true, "a4cad6f0cce36d1711d20589124aeafec96ab515187781600174a5c8a7514e2e"), looks := false }, kinds := [], alts := [], laidByText := true, laidKinds := [.data], laidTests := true, laidLooks := .later }
def CaptureLeftUptoCardSaid : Prop := Claim7.holds Tryd.pinned (.plain (OpenSpec.upto captureLeftSpec)) captureLeftUptoCard

/-- THE SECOND FORM's CARD OF 'parlkeep1.RetreeFolds'. -/
def retreeFoldsUptoCard : Claim7 := { stood := { row := retreeFoldsUptoRow, standIns := [], harness := (true, "a4cad6f0cce36d1711d20589124aeafec96ab515187781600174a5c8a7514e2e"), looks := false }, kinds := [], alts := [], laidByText := true, laidKinds := [.data], laidTests := true, laidLooks := .later }
def RetreeFoldsUptoCardSaid : Prop := Claim7.holds Tryd.pinned (.plain (OpenSpec.upto retreeFoldsSpec)) retreeFoldsUptoCard
end Rows
end Go.Proofs.YtgifkdbbgffemaaDoor
