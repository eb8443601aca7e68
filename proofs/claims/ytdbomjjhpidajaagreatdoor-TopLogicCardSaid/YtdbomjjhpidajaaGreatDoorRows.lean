/-
  NARROWER THAN 'FOR EVERY INPUT', by the rows' own cells (each row's printed sentence says how): TopBackward: laid · TopLogic: laid · TopWays: laid · TopCanonical: laid.
  DERIVED. THE GIVEN ROWS OF THIS SEAT. 4 by the template 'for every input the law returns true; each argument reads behind the call as it read before'; 0 by the template 'total and deterministic' (their statements: YtdbomjjhpidajaaGreatDoorTotals.lean).
  GIVEN WITH THE SEED: the statements are not yours to turn. If you find one false, say at which input.
  Laid BY PROGRAM, IN A SANDBOX (cutbox-rows.mjs): the forced cells as the released guide's own fill.sh prints them over the translation 7f7181730dd5ceb5… (all of the seat's roots in one cut). By AI agents, Wed Nov 11 2026. No macro, syntax, notation, axiom, sorry.
-/
import Derived.Test.YtdbomjjhpidajaaGreatDoorChecked
import GoSem.Claim
import GoSem.ClaimJoined
import GoSem.ClaimMapViews
import Derived.JoinedTies
import Derived.KernelRfl
namespace Go.Proofs.YtdbomjjhpidajaaGreatDoor
/- THE CELL 'sum', in the pinned program and in every row, IS THE sha256 OF THE DUMP (.gsa) THAT YtdbomjjhpidajaaGreatDoorProg.lean LOADS. Nothing in Lean hashes anything: it is a label: what it is worth is what the hold of that sum in a sandbox is worth. -/
noncomputable def Tryz.pinned : Pinned := { name := "ytdbomjjhpidajaagreatdoor", sum := "7f7181730dd5ceb53072d7fc26666be929c5e7d4f3fed094e3b4973c7f50eb39", checked := Tryz.checked }
namespace Rows
def none {H : Type} : Left H := { results := [], args := [] }

/- WHAT THE LISTED PACKAGE-LEVEL VARIABLES READ AS WHEN THE CALL BEGINS. Each datum BY PROGRAM (the guide's laid-datum.mjs) off the statement by which the dump's own 'gosem.cut.vars' lays the variable. In a bare row this is a premise. The card (YtdbomjjhpidajaaGreatDoorCards.lean) ties it to the program's text. -/
def laid_math_bits_deBruijn32tab {H : Type} : DataW H := .agg [.lit (.int .u8 0), .lit (.int .u8 1), .lit (.int .u8 28), .lit (.int .u8 2), .lit (.int .u8 29), .lit (.int .u8 14), .lit (.int .u8 24), .lit (.int .u8 3), .lit (.int .u8 30), .lit (.int .u8 22), .lit (.int .u8 20), .lit (.int .u8 15), .lit (.int .u8 25), .lit (.int .u8 17), .lit (.int .u8 4), .lit (.int .u8 8), .lit (.int .u8 31), .lit (.int .u8 27), .lit (.int .u8 13), .lit (.int .u8 23), .lit (.int .u8 21), .lit (.int .u8 19), .lit (.int .u8 16), .lit (.int .u8 7), .lit (.int .u8 26), .lit (.int .u8 12), .lit (.int .u8 18), .lit (.int .u8 6), .lit (.int .u8 11), .lit (.int .u8 5), .lit (.int .u8 10), .lit (.int .u8 9)]

/-- 'parltop.TopBackward': WHATEVER THE INPUT: true; the input reads as it did. -/
def topBackwardSpec : ChangeSpec := { name := "topBackward", fn := fun _ => fun
  | [d] => { results := [.lit (.bool true)], args := [d] }
  | _ => none }
def topBackwardRow : OpenClaim := { program := "ytdbomjjhpidajaagreatdoor", sum := "7f7181730dd5ceb53072d7fc26666be929c5e7d4f3fed094e3b4973c7f50eb39", func := "parlance/parltop.TopBackward", spec := "topBackward", unfollowed := true, recurses := true, named := ["math/bits.deBruijn32tab"], plainKeys := false, apart := false, laid := [("math/bits.deBruijn32tab", laid_math_bits_deBruijn32tab)] }
def TopBackwardSaid : Prop := topBackwardRow.holds Tryz.pinned (OpenSpec.ofChange topBackwardSpec)

/-- ITS FALSE NEIGHBOUR: 'it returns false'. Refute it at one input. -/
def topBackwardWrong : ChangeSpec := { name := "topBackward", fn := fun _ => fun
  | [d] => { results := [.lit (.bool false)], args := [d] }
  | _ => none }
def TopBackwardWrongFalsely : Prop := topBackwardRow.holds Tryz.pinned (OpenSpec.ofChange topBackwardWrong)

/-- 'parltop.TopLogic': WHATEVER THE INPUT: true; the input reads as it did. -/
def topLogicSpec : ChangeSpec := { name := "topLogic", fn := fun _ => fun
  | [d1, d2] => { results := [.lit (.bool true)], args := [d1, d2] }
  | _ => none }
def topLogicRow : OpenClaim := { program := "ytdbomjjhpidajaagreatdoor", sum := "7f7181730dd5ceb53072d7fc26666be929c5e7d4f3fed094e3b4973c7f50eb39", func := "parlance/parltop.TopLogic", spec := "topLogic", unfollowed := true, recurses := true, named := ["math/bits.deBruijn32tab"], plainKeys := false, apart := false, laid := [("math/bits.deBruijn32tab", laid_math_bits_deBruijn32tab)] }
def TopLogicSaid : Prop := topLogicRow.holds Tryz.pinned (OpenSpec.ofChange topLogicSpec)

/-- ITS FALSE NEIGHBOUR: 'it returns false'. Refute it at one input. -/
def topLogicWrong : ChangeSpec := { name := "topLogic", fn := fun _ => fun
  | [d1, d2] => { results := [.lit (.bool false)], args := [d1, d2] }
  | _ => none }
def TopLogicWrongFalsely : Prop := topLogicRow.holds Tryz.pinned (OpenSpec.ofChange topLogicWrong)

/-- 'parltop.TopWays': WHATEVER THE INPUT: true; the input reads as it did. -/
def topWaysSpec : ChangeSpec := { name := "topWays", fn := fun _ => fun
  | [d] => { results := [.lit (.bool true)], args := [d] }
  | _ => none }
def topWaysRow : OpenClaim := { program := "ytdbomjjhpidajaagreatdoor", sum := "7f7181730dd5ceb53072d7fc26666be929c5e7d4f3fed094e3b4973c7f50eb39", func := "parlance/parltop.TopWays", spec := "topWays", unfollowed := true, recurses := true, named := ["math/bits.deBruijn32tab"], plainKeys := false, apart := false, laid := [("math/bits.deBruijn32tab", laid_math_bits_deBruijn32tab)] }
def TopWaysSaid : Prop := topWaysRow.holds Tryz.pinned (OpenSpec.ofChange topWaysSpec)

/-- ITS FALSE NEIGHBOUR: 'it returns false'. Refute it at one input. -/
def topWaysWrong : ChangeSpec := { name := "topWays", fn := fun _ => fun
  | [d] => { results := [.lit (.bool false)], args := [d] }
  | _ => none }
def TopWaysWrongFalsely : Prop := topWaysRow.holds Tryz.pinned (OpenSpec.ofChange topWaysWrong)

/-- 'parltop.TopCanonical': WHATEVER THE INPUT: true; the input reads as it did. -/
def topCanonicalSpec : ChangeSpec := { name := "topCanonical", fn := fun _ => fun
  | [d] => { results := [.lit (.bool true)], args := [d] }
  | _ => none }
def topCanonicalRow : OpenClaim := { program := "ytdbomjjhpidajaagreatdoor", sum := "7f7181730dd5ceb53072d7fc26666be929c5e7d4f3fed094e3b4973c7f50eb39", func := "parlance/parltop.TopCanonical", spec := "topCanonical", unfollowed := true, recurses := true, named := ["math/bits.deBruijn32tab"], plainKeys := false, apart := false, laid := [("math/bits.deBruijn32tab", laid_math_bits_deBruijn32tab)] }
def TopCanonicalSaid : Prop := topCanonicalRow.holds Tryz.pinned (OpenSpec.ofChange topCanonicalSpec)

/-- ITS FALSE NEIGHBOUR: 'it returns false'. Refute it at one input. -/
def topCanonicalWrong : ChangeSpec := { name := "topCanonical", fn := fun _ => fun
  | [d] => { results := [.lit (.bool false)], args := [d] }
  | _ => none }
def TopCanonicalWrongFalsely : Prop := topCanonicalRow.holds Tryz.pinned (OpenSpec.ofChange topCanonicalWrong)

/- THE SECOND FORM. 'bulk': how many values and letters a reading holds, each counted each time it is reached (what is shared counts as often as it is met; a slice's spare places count too). A statement '..UptoSaid' is the law's where the arguments, and the package variables that the reading takes, are together of bulk at most 1048576: NARROWER than '..Said'. Prove '..Said' where nothing that the law and all that it calls make is longer than what came in: it says more and counts as full. Else prove '..UptoSaid'. A law counts once. -/
mutual
def uptoBulk {H : Type} : DataW H → Nat
  | .lit (.string bytes) => bytes.length + 1
  | .lit _ => 1
  | .nil => 1
  | .ptr d => uptoBulk d + 1
  | .slice elems spare => uptoBulkAll elems + uptoBulkAll spare + 1
  | .agg parts => uptoBulkAll parts + 1
  | .iface _ d => uptoBulk d + 1
  | .map entries => uptoBulkEntries entries + 1
  | .held _ => 1
def uptoBulkAll {H : Type} : List (DataW H) → Nat
  | [] => 0
  | d :: r => uptoBulk d + uptoBulkAll r
def uptoBulkEntries {H : Type} : List (Lit × DataW H) → Nat
  | [] => 0
  | x :: r => uptoBulkEntry x + uptoBulkEntries r
def uptoBulkEntry {H : Type} : Lit × DataW H → Nat
  | (.string bytes, d) => bytes.length + uptoBulk d + 1
  | (_, d) => uptoBulk d + 1
 end
def uptoSmall : (H : Type) → List (DataW H) → Bool := fun _ ds => decide (uptoBulkAll ds ≤ 1048576)
def OpenSpec.upto (s : _root_.Go.ChangeSpec) : _root_.Go.OpenSpec := { _root_.Go.OpenSpec.ofChange s with cond := some uptoSmall }

/-- 'parltop.TopBackward', WHERE WHAT IT READS IS OF BULK AT MOST 1048576: true; the input reads as it did. -/
def topBackwardUptoRow : OpenClaim := { program := "ytdbomjjhpidajaagreatdoor", sum := "7f7181730dd5ceb53072d7fc26666be929c5e7d4f3fed094e3b4973c7f50eb39", func := "parlance/parltop.TopBackward", spec := "topBackward", unfollowed := true, recurses := true, named := ["math/bits.deBruijn32tab"], plainKeys := false, apart := false, laid := [("math/bits.deBruijn32tab", laid_math_bits_deBruijn32tab)], narrowed := true }
def TopBackwardUptoSaid : Prop := topBackwardUptoRow.holds Tryz.pinned (OpenSpec.upto topBackwardSpec)

/-- 'parltop.TopLogic', WHERE WHAT IT READS IS OF BULK AT MOST 1048576: true; the input reads as it did. -/
def topLogicUptoRow : OpenClaim := { program := "ytdbomjjhpidajaagreatdoor", sum := "7f7181730dd5ceb53072d7fc26666be929c5e7d4f3fed094e3b4973c7f50eb39", func := "parlance/parltop.TopLogic", spec := "topLogic", unfollowed := true, recurses := true, named := ["math/bits.deBruijn32tab"], plainKeys := false, apart := false, laid := [("math/bits.deBruijn32tab", laid_math_bits_deBruijn32tab)], narrowed := true }
def TopLogicUptoSaid : Prop := topLogicUptoRow.holds Tryz.pinned (OpenSpec.upto topLogicSpec)

/-- 'parltop.TopWays', WHERE WHAT IT READS IS OF BULK AT MOST 1048576: true; the input reads as it did. -/
def topWaysUptoRow : OpenClaim := { program := "ytdbomjjhpidajaagreatdoor", sum := "7f7181730dd5ceb53072d7fc26666be929c5e7d4f3fed094e3b4973c7f50eb39", func := "parlance/parltop.TopWays", spec := "topWays", unfollowed := true, recurses := true, named := ["math/bits.deBruijn32tab"], plainKeys := false, apart := false, laid := [("math/bits.deBruijn32tab", laid_math_bits_deBruijn32tab)], narrowed := true }
def TopWaysUptoSaid : Prop := topWaysUptoRow.holds Tryz.pinned (OpenSpec.upto topWaysSpec)

/-- 'parltop.TopCanonical', WHERE WHAT IT READS IS OF BULK AT MOST 1048576: true; the input reads as it did. -/
def topCanonicalUptoRow : OpenClaim := { program := "ytdbomjjhpidajaagreatdoor", sum := "7f7181730dd5ceb53072d7fc26666be929c5e7d4f3fed094e3b4973c7f50eb39", func := "parlance/parltop.TopCanonical", spec := "topCanonical", unfollowed := true, recurses := true, named := ["math/bits.deBruijn32tab"], plainKeys := false, apart := false, laid := [("math/bits.deBruijn32tab", laid_math_bits_deBruijn32tab)], narrowed := true }
def TopCanonicalUptoSaid : Prop := topCanonicalUptoRow.holds Tryz.pinned (OpenSpec.upto topCanonicalSpec)

end Rows
end Go.Proofs.YtdbomjjhpidajaaGreatDoor
