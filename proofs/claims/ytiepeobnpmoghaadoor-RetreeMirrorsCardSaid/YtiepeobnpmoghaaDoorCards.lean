/-
  DERIVED. GIVEN WITH THE SEED: THE CARDS: each row of YtiepeobnpmoghaaDoorRows.lean that lists a variable, with what it lists TIED to the program's text (the seventh form; the later family's looks); each row that meets fmt, with fmt's text TOLD by the authors' own Lean function (tested against real Go, not proved from fmt's source: count such statements apart). THE CARD IS WHAT COUNTS. Prove the row's statement (the work); the ties are given (YtiepeobnpmoghaaDoorTie.lean); close each card by the builder's one call (the guide's Derived/Test/ToyasCard.lean, 'card_holds'). Laid BY PROGRAM, IN A SANDBOX (cutbox-door.mjs). By AI agents, Wed Nov 11 2026. No macro, syntax, notation, axiom, sorry.
-/
import Derived.Test.YtiepeobnpmoghaaDoorRows
import GoSem.ClaimSeven
namespace Go.Proofs.YtiepeobnpmoghaaDoor
namespace Rows

/-- THE TIED CARD OF 'parlkeep1.RelationKleene'. -/
def relationKleeneCard : Claim7 := { stood := { row := relationKleeneRow, standIns := [], harness := (true, "a0026686c8bd9ff25a10b3a03160ab20ed02beb252e8a42b20ddb8e0a3b67401"), looks := false }, kinds := [], alts := [], laidByText := true, laidKinds := [.data], laidTests := true, laidLooks := .later }
def RelationKleeneCardSaid : Prop := Claim7.holds Tryd.pinned (.plain (OpenSpec.ofChange relationKleeneSpec)) relationKleeneCard

/-- THE TIED CARD OF 'parlkeep1.RelationBoole'. -/
def relationBooleCard : Claim7 := { stood := { row := relationBooleRow, standIns := [], harness := (true, "a0026686c8bd9ff25a10b3a03160ab20ed02beb252e8a42b20ddb8e0a3b67401"), looks := false }, kinds := [], alts := [], laidByText := true, laidKinds := [.data], laidTests := true, laidLooks := .later }
def RelationBooleCardSaid : Prop := Claim7.holds Tryd.pinned (.plain (OpenSpec.ofChange relationBooleSpec)) relationBooleCard

/-- THE TIED CARD OF 'parllaw1.RelationTells'. -/
def relationTellsCard : Claim7 := { stood := { row := relationTellsRow, standIns := [], harness := (true, "a0026686c8bd9ff25a10b3a03160ab20ed02beb252e8a42b20ddb8e0a3b67401"), looks := false }, kinds := [], alts := [], laidByText := true, laidKinds := [.data], laidTests := true, laidLooks := .later }
def RelationTellsCardSaid : Prop := Claim7.holds Tryd.pinned (.plain (OpenSpec.ofChange relationTellsSpec)) relationTellsCard

/-- THE TIED CARD OF 'parlkeep1.RetreeNormKeeps'. -/
def retreeNormKeepsCard : Claim7 := { stood := { row := retreeNormKeepsRow, standIns := [], harness := (true, "a0026686c8bd9ff25a10b3a03160ab20ed02beb252e8a42b20ddb8e0a3b67401"), looks := false }, kinds := [], alts := [], laidByText := true, laidKinds := [.data], laidTests := true, laidLooks := .later }
def RetreeNormKeepsCardSaid : Prop := Claim7.holds Tryd.pinned (.plain (OpenSpec.ofChange retreeNormKeepsSpec)) retreeNormKeepsCard

/-- THE TIED CARD OF 'parlkeep1.RetreeMirrors'. -/
def retreeMirrorsCard : Claim7 := { stood := { row := retreeMirrorsRow, standIns := [], harness := (true, "a0026686c8bd9ff25a10b3a03160ab20ed02beb252e8a42b20ddb8e0a3b67401"), looks := false }, kinds := [], alts := [], laidByText := true, laidKinds := [.data], laidTests := true, laidLooks := .later }
def RetreeMirrorsCardSaid : Prop := Claim7.holds Tryd.pinned (.plain (OpenSpec.ofChange retreeMirrorsSpec)) retreeMirrorsCard

/-- THE SECOND FORM's CARD OF 'parlkeep1.RelationKleene'. -/
def relationKleeneUptoCard : Claim7 := { stood := { row := relationKleeneUptoRow, standIns := [], harness := (true, "a0026686c8bd9ff25a10b3a03160ab20ed02beb252e8a42b20ddb8e0a3b67401"), looks := false }, kinds := [], alts := [], laidByText := true, laidKinds := [.data], laidTests := true, laidLooks := .later }
def RelationKleeneUptoCardSaid : Prop := Claim7.holds Tryd.pinned (.plain (OpenSpec.upto relationKleeneSpec)) relationKleeneUptoCard

/-- THE SECOND FORM's CARD OF 'parlkeep1.RelationBoole'. -/
def relationBooleUptoCard : Claim7 := { stood := { row := relationBooleUptoRow, standIns := [], harness := (true, "a0026686c8bd9ff25a10b3a03160ab20ed02beb252e8a42b20ddb8e0a3b67401"), looks := false }, kinds := [], alts := [], laidByText := true, laidKinds := [.data], laidTests := true, laidLooks := .later }
def RelationBooleUptoCardSaid : Prop := Claim7.holds Tryd.pinned (.plain (OpenSpec.upto relationBooleSpec)) relationBooleUptoCard

/-- THE SECOND FORM's CARD OF 'parllaw1.RelationTells'. -/
def relationTellsUptoCard : Claim7 := { stood := { row := relationTellsUptoRow, standIns := [], harness := (true, "a0026686c8bd9ff25a10b3a03160ab20ed02beb252e8a42b20ddb8e0a3b67401"), looks := false }, kinds := [], alts := [], laidByText := true, laidKinds := [.data], laidTests := true, laidLooks := .later }
def RelationTellsUptoCardSaid : Prop := Claim7.holds Tryd.pinned (.plain (OpenSpec.upto relationTellsSpec)) relationTellsUptoCard

/-- THE SECOND FORM's CARD OF 'parlkeep1.RetreeNormKeeps'. -/
def retreeNormKeepsUptoCard : Claim7 := { stood := { row := retreeNormKeepsUptoRow, standIns := [], harness := (true, "a0026686c8bd9ff25a10b3a03160ab20ed02beb252e8a42b20ddb8e0a3b67401"), looks := false }, kinds := [], alts := [], laidByText := true, laidKinds := [.data], laidTests := true, laidLooks := .later }
def RetreeNormKeepsUptoCardSaid : Prop := Claim7.holds Tryd.pinned (.plain (OpenSpec.upto retreeNormKeepsSpec)) retreeNormKeepsUptoCard

/-- THE SECOND FORM's CARD OF 'parlkeep1.RetreeMirrors'. -/
def retreeMirrorsUptoCard : Claim7 := { stood := { row := retreeMirrorsUptoRow, standIns := [], harness := (true, "a0026686c8bd9ff25a10b3a03160ab20ed02beb252e8a42b20ddb8e0a3b67401"), looks := false }, kinds := [], alts := [], laidByText := true, laidKinds := [.data], laidTests := true, laidLooks := .later }
def RetreeMirrorsUptoCardSaid : Prop := Claim7.holds Tryd.pinned (.plain (OpenSpec.upto retreeMirrorsSpec)) retreeMirrorsUptoCard
end Rows
end Go.Proofs.YtiepeobnpmoghaaDoor
