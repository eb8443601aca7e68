/-
  No cell of these rows narrows 'for every input' (looked for: loops, veiled, ifaces, maps, wideKeys, modest, calm, conditions, laid).
  DERIVED. THE GIVEN ROWS OF THIS SEAT. 4 by the template 'for every input the law returns true; each argument reads behind the call as it read before'; 0 by the template 'total and deterministic' (their statements: YtcbkbogcaglcoaaTotals.lean).
  GIVEN WITH THE SEED: the statements are not yours to turn. If you find one false, say at which input.
  Laid BY PROGRAM, IN A SANDBOX (cutbox-rows.mjs): the forced cells as the released guide's own fill.sh prints them over the translation b50c367c63bb2167… (all of the seat's roots in one cut). By AI agents, Wed Nov 11 2026. No macro, syntax, notation, axiom, sorry.
-/
import Derived.Test.YtcbkbogcaglcoaaChecked
import GoSem.Claim
import GoSem.ClaimJoined
import GoSem.ClaimMapViews
import Derived.JoinedTies
import Derived.KernelRfl
namespace Go.Proofs.Ytcbkbogcaglcoaa
/- THE CELL 'sum', in the pinned program and in every row, IS THE sha256 OF THE DUMP (.gsa) THAT YtcbkbogcaglcoaaProg.lean LOADS. Nothing in Lean hashes anything: it is a label: what it is worth is what the hold of that sum in a sandbox is worth. -/
noncomputable def Try.pinned : Pinned := { name := "ytcbkbogcaglcoaa", sum := "b50c367c63bb2167089ed29d0c2910a17d8452431ac681f05a65ae349840cfe0", checked := Try.checked }
namespace Rows
def none {H : Type} : Left H := { results := [], args := [] }

/-- 'parlkeep1.PackTight': WHATEVER THE INPUT: true; the input reads as it did. -/
def packTightSpec : ChangeSpec := { name := "packTight", fn := fun _ => fun
  | [d1, d2, d3] => { results := [.lit (.bool true)], args := [d1, d2, d3] }
  | _ => none }
def packTightRow : OpenClaim := { program := "ytcbkbogcaglcoaa", sum := "b50c367c63bb2167089ed29d0c2910a17d8452431ac681f05a65ae349840cfe0", func := "parlance/parlkeep1.PackTight", spec := "packTight", unfollowed := true, recurses := true, apart := false }
def PackTightSaid : Prop := packTightRow.holds Try.pinned (OpenSpec.ofChange packTightSpec)

/-- ITS FALSE NEIGHBOUR: 'it returns false'. Refute it at one input. -/
def packTightWrong : ChangeSpec := { name := "packTight", fn := fun _ => fun
  | [d1, d2, d3] => { results := [.lit (.bool false)], args := [d1, d2, d3] }
  | _ => none }
def PackTightWrongFalsely : Prop := packTightRow.holds Try.pinned (OpenSpec.ofChange packTightWrong)

/-- 'parllaw1.RowpackTells': WHATEVER THE INPUT: true; the input reads as it did. -/
def rowpackTellsSpec : ChangeSpec := { name := "rowpackTells", fn := fun _ => fun
  | [d] => { results := [.lit (.bool true)], args := [d] }
  | _ => none }
def rowpackTellsRow : OpenClaim := { program := "ytcbkbogcaglcoaa", sum := "b50c367c63bb2167089ed29d0c2910a17d8452431ac681f05a65ae349840cfe0", func := "parlance/parllaw1.RowpackTells", spec := "rowpackTells", unfollowed := true, recurses := true, apart := false }
def RowpackTellsSaid : Prop := rowpackTellsRow.holds Try.pinned (OpenSpec.ofChange rowpackTellsSpec)

/-- ITS FALSE NEIGHBOUR: 'it returns false'. Refute it at one input. -/
def rowpackTellsWrong : ChangeSpec := { name := "rowpackTells", fn := fun _ => fun
  | [d] => { results := [.lit (.bool false)], args := [d] }
  | _ => none }
def RowpackTellsWrongFalsely : Prop := rowpackTellsRow.holds Try.pinned (OpenSpec.ofChange rowpackTellsWrong)

/-- 'parllaw1.RowpackReads': WHATEVER THE INPUT: true; the input reads as it did. -/
def rowpackReadsSpec : ChangeSpec := { name := "rowpackReads", fn := fun _ => fun
  | [d1, d2, d3, d4] => { results := [.lit (.bool true)], args := [d1, d2, d3, d4] }
  | _ => none }
def rowpackReadsRow : OpenClaim := { program := "ytcbkbogcaglcoaa", sum := "b50c367c63bb2167089ed29d0c2910a17d8452431ac681f05a65ae349840cfe0", func := "parlance/parllaw1.RowpackReads", spec := "rowpackReads", unfollowed := true, recurses := true, apart := false }
def RowpackReadsSaid : Prop := rowpackReadsRow.holds Try.pinned (OpenSpec.ofChange rowpackReadsSpec)

/-- ITS FALSE NEIGHBOUR: 'it returns false'. Refute it at one input. -/
def rowpackReadsWrong : ChangeSpec := { name := "rowpackReads", fn := fun _ => fun
  | [d1, d2, d3, d4] => { results := [.lit (.bool false)], args := [d1, d2, d3, d4] }
  | _ => none }
def RowpackReadsWrongFalsely : Prop := rowpackReadsRow.holds Try.pinned (OpenSpec.ofChange rowpackReadsWrong)

/-- 'parlkeep1.PackBack': WHATEVER THE INPUT: true; the input reads as it did. -/
def packBackSpec : ChangeSpec := { name := "packBack", fn := fun _ => fun
  | [d] => { results := [.lit (.bool true)], args := [d] }
  | _ => none }
def packBackRow : OpenClaim := { program := "ytcbkbogcaglcoaa", sum := "b50c367c63bb2167089ed29d0c2910a17d8452431ac681f05a65ae349840cfe0", func := "parlance/parlkeep1.PackBack", spec := "packBack", unfollowed := true, recurses := true, apart := false }
def PackBackSaid : Prop := packBackRow.holds Try.pinned (OpenSpec.ofChange packBackSpec)

/-- ITS FALSE NEIGHBOUR: 'it returns false'. Refute it at one input. -/
def packBackWrong : ChangeSpec := { name := "packBack", fn := fun _ => fun
  | [d] => { results := [.lit (.bool false)], args := [d] }
  | _ => none }
def PackBackWrongFalsely : Prop := packBackRow.holds Try.pinned (OpenSpec.ofChange packBackWrong)

/- THE SECOND FORM. 'bulk': how many values and letters a reading holds, each counted each time it is reached (what is shared counts as often as it is met; a slice's spare places count too). A statement '..UptoSaid' is the law's where the arguments, and the package variables that the reading takes, are together of bulk at most 1048576: NARROWER than '..Said'. Prove '..Said' where nothing that the law and all that it calls make is longer than what came in: it says more and counts as full. Else prove '..UptoSaid'. A law counts once. -/
mutual
def uptoBulk {H : Type} : DataW H → Nat
  | .lit (.string bytes) => bytes.length + 1
  | .lit _ => 1
  | .nil => 1
  | .ptr d => uptoBulk d + 1
  | .slice elems spare => uptoBulkAll elems + uptoBulkAll spare + 1
  | .agg parts => uptoBulkAll parts + 1
  | .iface _ d => uptoBulk d + 1
  | .map entries => uptoBulkEntries entries + 1
  | .held _ => 1
def uptoBulkAll {H : Type} : List (DataW H) → Nat
  | [] => 0
  | d :: r => uptoBulk d + uptoBulkAll r
def uptoBulkEntries {H : Type} : List (Lit × DataW H) → Nat
  | [] => 0
  | x :: r => uptoBulkEntry x + uptoBulkEntries r
def uptoBulkEntry {H : Type} : Lit × DataW H → Nat
  | (.string bytes, d) => bytes.length + uptoBulk d + 1
  | (_, d) => uptoBulk d + 1
 end
def uptoSmall : (H : Type) → List (DataW H) → Bool := fun _ ds => decide (uptoBulkAll ds ≤ 1048576)
def OpenSpec.upto (s : _root_.Go.ChangeSpec) : _root_.Go.OpenSpec := { _root_.Go.OpenSpec.ofChange s with cond := some uptoSmall }

/-- 'parlkeep1.PackTight', WHERE WHAT IT READS IS OF BULK AT MOST 1048576: true; the input reads as it did. -/
def packTightUptoRow : OpenClaim := { program := "ytcbkbogcaglcoaa", sum := "b50c367c63bb2167089ed29d0c2910a17d8452431ac681f05a65ae349840cfe0", func := "parlance/parlkeep1.PackTight", spec := "packTight", unfollowed := true, recurses := true, apart := false, narrowed := true }
def PackTightUptoSaid : Prop := packTightUptoRow.holds Try.pinned (OpenSpec.upto packTightSpec)

/-- 'parllaw1.RowpackTells', WHERE WHAT IT READS IS OF BULK AT MOST 1048576: true; the input reads as it did. -/
def rowpackTellsUptoRow : OpenClaim := { program := "ytcbkbogcaglcoaa", sum := "b50c367c63bb2167089ed29d0c2910a17d8452431ac681f05a65ae349840cfe0", func := "parlance/parllaw1.RowpackTells", spec := "rowpackTells", unfollowed := true, recurses := true, apart := false, narrowed := true }
def RowpackTellsUptoSaid : Prop := rowpackTellsUptoRow.holds Try.pinned (OpenSpec.upto rowpackTellsSpec)

/-- 'parllaw1.RowpackReads', WHERE WHAT IT READS IS OF BULK AT MOST 1048576: true; the input reads as it did. -/
def rowpackReadsUptoRow : OpenClaim := { program := "ytcbkbogcaglcoaa", sum := "b50c367c63bb2167089ed29d0c2910a17d8452431ac681f05a65ae349840cfe0", func := "parlance/parllaw1.RowpackReads", spec := "rowpackReads", unfollowed := true, recurses := true, apart := false, narrowed := true }
def RowpackReadsUptoSaid : Prop := rowpackReadsUptoRow.holds Try.pinned (OpenSpec.upto rowpackReadsSpec)

/-- 'parlkeep1.PackBack', WHERE WHAT IT READS IS OF BULK AT MOST 1048576: true; the input reads as it did. -/
def packBackUptoRow : OpenClaim := { program := "ytcbkbogcaglcoaa", sum := "b50c367c63bb2167089ed29d0c2910a17d8452431ac681f05a65ae349840cfe0", func := "parlance/parlkeep1.PackBack", spec := "packBack", unfollowed := true, recurses := true, apart := false, narrowed := true }
def PackBackUptoSaid : Prop := packBackUptoRow.holds Try.pinned (OpenSpec.upto packBackSpec)

end Rows
end Go.Proofs.Ytcbkbogcaglcoaa
