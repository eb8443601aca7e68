/-
  NARROWER THAN 'FOR EVERY INPUT', by the rows' own cells (each row's printed sentence says how): RelationKleene: laid · RelationBoole: laid · RelationTells: loops, laid · RetreeNormKeeps: laid · RetreeMirrors: laid.
  DERIVED. THE GIVEN ROWS OF THIS SEAT. 5 by the template 'for every input the law returns true; each argument reads behind the call as it read before'; 0 by the template 'total and deterministic' (their statements: YtiepeobnpmoghaaDoorTotals.lean).
  GIVEN WITH THE SEED: the statements are not yours to turn. If you find one false, say at which input.
  Laid BY PROGRAM, IN A SANDBOX (cutbox-rows.mjs): the forced cells as the released guide's own fill.sh prints them over the translation b96dafc625df32f0… (all of the seat's roots in one cut). By AI agents, Wed Nov 11 2026. No macro, syntax, notation, axiom, sorry.
-/
import Derived.Test.YtiepeobnpmoghaaDoorChecked
import GoSem.Claim
import GoSem.ClaimJoined
import GoSem.ClaimMapViews
import Derived.JoinedTies
import Derived.KernelRfl
namespace Go.Proofs.YtiepeobnpmoghaaDoor
/- THE CELL 'sum', in the pinned program and in every row, IS THE sha256 OF THE DUMP (.gsa) THAT YtiepeobnpmoghaaDoorProg.lean LOADS. Nothing in Lean hashes anything: it is a label: what it is worth is what the hold of that sum in a sandbox is worth. -/
noncomputable def Tryd.pinned : Pinned := { name := "ytiepeobnpmoghaadoor", sum := "b96dafc625df32f02ee0f2557dacae9e7a6538e1c0f101711ae24ec591c7a060", checked := Tryd.checked }
namespace Rows
def none {H : Type} : Left H := { results := [], args := [] }

/- WHAT THE LISTED PACKAGE-LEVEL VARIABLES READ AS WHEN THE CALL BEGINS. Each datum BY PROGRAM (the guide's laid-datum.mjs) off the statement by which the dump's own 'gosem.cut.vars' lays the variable. In a bare row this is a premise. The card (YtiepeobnpmoghaaDoorCards.lean) ties it to the program's text. -/
def laid_math_bits_deBruijn32tab {H : Type} : DataW H := .agg [.lit (.int .u8 0), .lit (.int .u8 1), .lit (.int .u8 28), .lit (.int .u8 2), .lit (.int .u8 29), .lit (.int .u8 14), .lit (.int .u8 24), .lit (.int .u8 3), .lit (.int .u8 30), .lit (.int .u8 22), .lit (.int .u8 20), .lit (.int .u8 15), .lit (.int .u8 25), .lit (.int .u8 17), .lit (.int .u8 4), .lit (.int .u8 8), .lit (.int .u8 31), .lit (.int .u8 27), .lit (.int .u8 13), .lit (.int .u8 23), .lit (.int .u8 21), .lit (.int .u8 19), .lit (.int .u8 16), .lit (.int .u8 7), .lit (.int .u8 26), .lit (.int .u8 12), .lit (.int .u8 18), .lit (.int .u8 6), .lit (.int .u8 11), .lit (.int .u8 5), .lit (.int .u8 10), .lit (.int .u8 9)]

/-- 'parlkeep1.RelationKleene': WHATEVER THE INPUT: true; the input reads as it did. -/
def relationKleeneSpec : ChangeSpec := { name := "relationKleene", fn := fun _ => fun
  | [d1, d2, d3, d4] => { results := [.lit (.bool true)], args := [d1, d2, d3, d4] }
  | _ => none }
def relationKleeneRow : OpenClaim := { program := "ytiepeobnpmoghaadoor", sum := "b96dafc625df32f02ee0f2557dacae9e7a6538e1c0f101711ae24ec591c7a060", func := "parlance/parlkeep1.RelationKleene", spec := "relationKleene", unfollowed := true, recurses := true, named := ["math/bits.deBruijn32tab"], apart := false, laid := [("math/bits.deBruijn32tab", laid_math_bits_deBruijn32tab)] }
def RelationKleeneSaid : Prop := relationKleeneRow.holds Tryd.pinned (OpenSpec.ofChange relationKleeneSpec)

/-- ITS FALSE NEIGHBOUR: 'it returns false'. Refute it at one input. -/
def relationKleeneWrong : ChangeSpec := { name := "relationKleene", fn := fun _ => fun
  | [d1, d2, d3, d4] => { results := [.lit (.bool false)], args := [d1, d2, d3, d4] }
  | _ => none }
def RelationKleeneWrongFalsely : Prop := relationKleeneRow.holds Tryd.pinned (OpenSpec.ofChange relationKleeneWrong)

/-- 'parlkeep1.RelationBoole': WHATEVER THE INPUT: true; the input reads as it did. -/
def relationBooleSpec : ChangeSpec := { name := "relationBoole", fn := fun _ => fun
  | [d1, d2, d3] => { results := [.lit (.bool true)], args := [d1, d2, d3] }
  | _ => none }
def relationBooleRow : OpenClaim := { program := "ytiepeobnpmoghaadoor", sum := "b96dafc625df32f02ee0f2557dacae9e7a6538e1c0f101711ae24ec591c7a060", func := "parlance/parlkeep1.RelationBoole", spec := "relationBoole", unfollowed := true, recurses := true, named := ["math/bits.deBruijn32tab"], apart := false, laid := [("math/bits.deBruijn32tab", laid_math_bits_deBruijn32tab)] }
def RelationBooleSaid : Prop := relationBooleRow.holds Tryd.pinned (OpenSpec.ofChange relationBooleSpec)

/-- ITS FALSE NEIGHBOUR: 'it returns false'. Refute it at one input. -/
def relationBooleWrong : ChangeSpec := { name := "relationBoole", fn := fun _ => fun
  | [d1, d2, d3] => { results := [.lit (.bool false)], args := [d1, d2, d3] }
  | _ => none }
def RelationBooleWrongFalsely : Prop := relationBooleRow.holds Tryd.pinned (OpenSpec.ofChange relationBooleWrong)

/-- 'parllaw1.RelationTells': WHATEVER THE INPUT: true; the input reads as it did. -/
def relationTellsSpec : ChangeSpec := { name := "relationTells", fn := fun _ => fun
  | [d1, d2] => { results := [.lit (.bool true)], args := [d1, d2] }
  | _ => none }
def relationTellsRow : OpenClaim := { program := "ytiepeobnpmoghaadoor", sum := "b96dafc625df32f02ee0f2557dacae9e7a6538e1c0f101711ae24ec591c7a060", func := "parlance/parllaw1.RelationTells", spec := "relationTells", unfollowed := true, recurses := true, named := ["math/bits.deBruijn32tab"], loops := true, apart := false, laid := [("math/bits.deBruijn32tab", laid_math_bits_deBruijn32tab)] }
def RelationTellsSaid : Prop := relationTellsRow.holds Tryd.pinned (OpenSpec.ofChange relationTellsSpec)

/-- ITS FALSE NEIGHBOUR: 'it returns false'. Refute it at one input. -/
def relationTellsWrong : ChangeSpec := { name := "relationTells", fn := fun _ => fun
  | [d1, d2] => { results := [.lit (.bool false)], args := [d1, d2] }
  | _ => none }
def RelationTellsWrongFalsely : Prop := relationTellsRow.holds Tryd.pinned (OpenSpec.ofChange relationTellsWrong)

/-- 'parlkeep1.RetreeNormKeeps': WHATEVER THE INPUT: true; the input reads as it did. -/
def retreeNormKeepsSpec : ChangeSpec := { name := "retreeNormKeeps", fn := fun _ => fun
  | [d1, d2] => { results := [.lit (.bool true)], args := [d1, d2] }
  | _ => none }
def retreeNormKeepsRow : OpenClaim := { program := "ytiepeobnpmoghaadoor", sum := "b96dafc625df32f02ee0f2557dacae9e7a6538e1c0f101711ae24ec591c7a060", func := "parlance/parlkeep1.RetreeNormKeeps", spec := "retreeNormKeeps", unfollowed := true, recurses := true, named := ["math/bits.deBruijn32tab"], apart := false, laid := [("math/bits.deBruijn32tab", laid_math_bits_deBruijn32tab)] }
def RetreeNormKeepsSaid : Prop := retreeNormKeepsRow.holds Tryd.pinned (OpenSpec.ofChange retreeNormKeepsSpec)

/-- ITS FALSE NEIGHBOUR: 'it returns false'. Refute it at one input. -/
def retreeNormKeepsWrong : ChangeSpec := { name := "retreeNormKeeps", fn := fun _ => fun
  | [d1, d2] => { results := [.lit (.bool false)], args := [d1, d2] }
  | _ => none }
def RetreeNormKeepsWrongFalsely : Prop := retreeNormKeepsRow.holds Tryd.pinned (OpenSpec.ofChange retreeNormKeepsWrong)

/-- 'parlkeep1.RetreeMirrors': WHATEVER THE INPUT: true; the input reads as it did. -/
def retreeMirrorsSpec : ChangeSpec := { name := "retreeMirrors", fn := fun _ => fun
  | [d1, d2] => { results := [.lit (.bool true)], args := [d1, d2] }
  | _ => none }
def retreeMirrorsRow : OpenClaim := { program := "ytiepeobnpmoghaadoor", sum := "b96dafc625df32f02ee0f2557dacae9e7a6538e1c0f101711ae24ec591c7a060", func := "parlance/parlkeep1.RetreeMirrors", spec := "retreeMirrors", unfollowed := true, recurses := true, named := ["math/bits.deBruijn32tab"], apart := false, laid := [("math/bits.deBruijn32tab", laid_math_bits_deBruijn32tab)] }
def RetreeMirrorsSaid : Prop := retreeMirrorsRow.holds Tryd.pinned (OpenSpec.ofChange retreeMirrorsSpec)

/-- ITS FALSE NEIGHBOUR: 'it returns false'. Refute it at one input. -/
def retreeMirrorsWrong : ChangeSpec := { name := "retreeMirrors", fn := fun _ => fun
  | [d1, d2] => { results := [.lit (.bool false)], args := [d1, d2] }
  | _ => none }
def RetreeMirrorsWrongFalsely : Prop := retreeMirrorsRow.holds Tryd.pinned (OpenSpec.ofChange retreeMirrorsWrong)

/- THE SECOND FORM. 'bulk': how many values and letters a reading holds, each counted each time it is reached (what is shared counts as often as it is met; a slice's spare places count too). A statement '..UptoSaid' is the law's where the arguments, and the package variables that the reading takes, are together of bulk at most 1048576: NARROWER than '..Said'. Prove '..Said' where nothing that the law and all that it calls make is longer than what came in: it says more and counts as full. Else prove '..UptoSaid'. A law counts once. -/
mutual
def uptoBulk {H : Type} : DataW H → Nat
  | .lit (.string bytes) => bytes.length + 1
  | .lit _ => 1
  | .nil => 1
  | .ptr d => uptoBulk d + 1
  | .slice elems spare => uptoBulkAll elems + uptoBulkAll spare + 1
  | .agg parts => uptoBulkAll parts + 1
  | .iface _ d => uptoBulk d + 1
  | .map entries => uptoBulkEntries entries + 1
  | .held _ => 1
def uptoBulkAll {H : Type} : List (DataW H) → Nat
  | [] => 0
  | d :: r => uptoBulk d + uptoBulkAll r
def uptoBulkEntries {H : Type} : List (Lit × DataW H) → Nat
  | [] => 0
  | x :: r => uptoBulkEntry x + uptoBulkEntries r
def uptoBulkEntry {H : Type} : Lit × DataW H → Nat
  | (.string bytes, d) => bytes.length + uptoBulk d + 1
  | (_, d) => uptoBulk d + 1
 end
def uptoSmall : (H : Type) → List (DataW H) → Bool := fun _ ds => decide (uptoBulkAll ds ≤ 1048576)
def OpenSpec.upto (s : _root_.Go.ChangeSpec) : _root_.Go.OpenSpec := { _root_.Go.OpenSpec.ofChange s with cond := some uptoSmall }

/-- 'parlkeep1.RelationKleene', WHERE WHAT IT READS IS OF BULK AT MOST 1048576: true; the input reads as it did. -/
def relationKleeneUptoRow : OpenClaim := { program := "ytiepeobnpmoghaadoor", sum := "b96dafc625df32f02ee0f2557dacae9e7a6538e1c0f101711ae24ec591c7a060", func := "parlance/parlkeep1.RelationKleene", spec := "relationKleene", unfollowed := true, recurses := true, named := ["math/bits.deBruijn32tab"], apart := false, laid := [("math/bits.deBruijn32tab", laid_math_bits_deBruijn32tab)], narrowed := true }
def RelationKleeneUptoSaid : Prop := relationKleeneUptoRow.holds Tryd.pinned (OpenSpec.upto relationKleeneSpec)

/-- 'parlkeep1.RelationBoole', WHERE WHAT IT READS IS OF BULK AT MOST 1048576: true; the input reads as it did. -/
def relationBooleUptoRow : OpenClaim := { program := "ytiepeobnpmoghaadoor", sum := "b96dafc625df32f02ee0f2557dacae9e7a6538e1c0f101711ae24ec591c7a060", func := "parlance/parlkeep1.RelationBoole", spec := "relationBoole", unfollowed := true, recurses := true, named := ["math/bits.deBruijn32tab"], apart := false, laid := [("math/bits.deBruijn32tab", laid_math_bits_deBruijn32tab)], narrowed := true }
def RelationBooleUptoSaid : Prop := relationBooleUptoRow.holds Tryd.pinned (OpenSpec.upto relationBooleSpec)

/-- 'parllaw1.RelationTells', WHERE WHAT IT READS IS OF BULK AT MOST 1048576: true; the input reads as it did. -/
def relationTellsUptoRow : OpenClaim := { program := "ytiepeobnpmoghaadoor", sum := "b96dafc625df32f02ee0f2557dacae9e7a6538e1c0f101711ae24ec591c7a060", func := "parlance/parllaw1.RelationTells", spec := "relationTells", unfollowed := true, recurses := true, named := ["math/bits.deBruijn32tab"], loops := true, apart := false, laid := [("math/bits.deBruijn32tab", laid_math_bits_deBruijn32tab)], narrowed := true }
def RelationTellsUptoSaid : Prop := relationTellsUptoRow.holds Tryd.pinned (OpenSpec.upto relationTellsSpec)

/-- 'parlkeep1.RetreeNormKeeps', WHERE WHAT IT READS IS OF BULK AT MOST 1048576: true; the input reads as it did. -/
def retreeNormKeepsUptoRow : OpenClaim := { program := "ytiepeobnpmoghaadoor", sum := "b96dafc625df32f02ee0f2557dacae9e7a6538e1c0f101711ae24ec591c7a060", func := "parlance/parlkeep1.RetreeNormKeeps", spec := "retreeNormKeeps", unfollowed := true, recurses := true, named := ["math/bits.deBruijn32tab"], apart := false, laid := [("math/bits.deBruijn32tab", laid_math_bits_deBruijn32tab)], narrowed := true }
def RetreeNormKeepsUptoSaid : Prop := retreeNormKeepsUptoRow.holds Tryd.pinned (OpenSpec.upto retreeNormKeepsSpec)

/-- 'parlkeep1.RetreeMirrors', WHERE WHAT IT READS IS OF BULK AT MOST 1048576: true; the input reads as it did. -/
def retreeMirrorsUptoRow : OpenClaim := { program := "ytiepeobnpmoghaadoor", sum := "b96dafc625df32f02ee0f2557dacae9e7a6538e1c0f101711ae24ec591c7a060", func := "parlance/parlkeep1.RetreeMirrors", spec := "retreeMirrors", unfollowed := true, recurses := true, named := ["math/bits.deBruijn32tab"], apart := false, laid := [("math/bits.deBruijn32tab", laid_math_bits_deBruijn32tab)], narrowed := true }
def RetreeMirrorsUptoSaid : Prop := retreeMirrorsUptoRow.holds Tryd.pinned (OpenSpec.upto retreeMirrorsSpec)

end Rows
end Go.Proofs.YtiepeobnpmoghaaDoor
