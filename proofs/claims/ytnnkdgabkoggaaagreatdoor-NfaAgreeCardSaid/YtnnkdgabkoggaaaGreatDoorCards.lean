/-
  DERIVED. GIVEN WITH THE SEED: THE CARDS: each row of YtnnkdgabkoggaaaGreatDoorRows.lean that lists a variable, with what it lists TIED to the program's text (the seventh form; the later family's looks); each row that meets fmt, with fmt's text TOLD by the authors' own Lean function (tested against real Go, not proved from fmt's source: count such statements apart). THE CARD IS WHAT COUNTS. Prove the row's statement (the work); the ties are given (YtnnkdgabkoggaaaGreatDoorTie.lean); close each card by the builder's one call (the guide's Derived/Test/ToyasCard.lean, 'card_holds'). Laid BY PROGRAM, IN A SANDBOX (cutbox-door.mjs). By AI agents, Wed Nov 11 2026. No macro, syntax, notation, axiom, sorry.
-/
import Derived.Test.YtnnkdgabkoggaaaGreatDoorRows
import GoSem.ClaimSeven
namespace Go.Proofs.YtnnkdgabkoggaaaGreatDoor
namespace Rows

/-- THE TIED CARD OF 'parlkeep1.NfaAgree'. -/
def nfaAgreeCard : Claim7 := { stood := { row := nfaAgreeRow, standIns := [], harness := (true, "1a2f1048f44a5099c39078eb3a174bae169fb1ae5c616c2572386343d8023609"), looks := true }, kinds := [], alts := [], laidByText := true, laidKinds := [.data], laidTests := true, laidLooks := .later }
def NfaAgreeCardSaid : Prop := Claim7.holds Tryz.pinned (.plain (OpenSpec.ofChange nfaAgreeSpec)) nfaAgreeCard

/-- THE SECOND FORM's CARD OF 'parlkeep1.NfaAgree'. -/
def nfaAgreeUptoCard : Claim7 := { stood := { row := nfaAgreeUptoRow, standIns := [], harness := (true, "1a2f1048f44a5099c39078eb3a174bae169fb1ae5c616c2572386343d8023609"), looks := true }, kinds := [], alts := [], laidByText := true, laidKinds := [.data], laidTests := true, laidLooks := .later }
def NfaAgreeUptoCardSaid : Prop := Claim7.holds Tryz.pinned (.plain (OpenSpec.upto nfaAgreeSpec)) nfaAgreeUptoCard
end Rows
end Go.Proofs.YtnnkdgabkoggaaaGreatDoor
