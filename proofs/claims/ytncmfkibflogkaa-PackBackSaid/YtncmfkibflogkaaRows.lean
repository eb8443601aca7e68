/-
  No cell of these rows narrows 'for every input' (looked for: loops, veiled, ifaces, maps, wideKeys, modest, calm, conditions, laid).
  DERIVED. THE GIVEN ROWS OF THIS SEAT. 8 by the template 'for every input the law returns true; each argument reads behind the call as it read before'; 0 by the template 'total and deterministic' (their statements: YtncmfkibflogkaaTotals.lean).
  GIVEN WITH THE SEED: the statements are not yours to turn. If you find one false, say at which input.
  Laid BY PROGRAM, IN A SANDBOX (cutbox-rows.mjs): the forced cells as the released guide's own fill.sh prints them over the translation 1cde8dddc9d0af99… (all of the seat's roots in one cut). By AI agents, Wed Nov 11 2026. No macro, syntax, notation, axiom, sorry.
-/
import Derived.Test.YtncmfkibflogkaaChecked
import GoSem.Claim
import GoSem.ClaimJoined
import GoSem.ClaimMapViews
import Derived.JoinedTies
import Derived.KernelRfl
namespace Go.Proofs.Ytncmfkibflogkaa
/- THE CELL 'sum', in the pinned program and in every row, IS THE sha256 OF THE DUMP (.gsa) THAT YtncmfkibflogkaaProg.lean LOADS. Nothing in Lean hashes anything: it is a label: what it is worth is what the hold of that sum in a sandbox is worth. -/
noncomputable def Try.pinned : Pinned := { name := "ytncmfkibflogkaa", sum := "1cde8dddc9d0af9900205f7e73acd26c99ef36a5bfad671734c084e0b0c99ded", checked := Try.checked }
namespace Rows
def none {H : Type} : Left H := { results := [], args := [] }

/-- 'parllaw1.MiniSames': WHATEVER THE INPUT: true; the input reads as it did. -/
def miniSamesSpec : ChangeSpec := { name := "miniSames", fn := fun _ => fun
  | [d1, d2] => { results := [.lit (.bool true)], args := [d1, d2] }
  | _ => none }
def miniSamesRow : OpenClaim := { program := "ytncmfkibflogkaa", sum := "1cde8dddc9d0af9900205f7e73acd26c99ef36a5bfad671734c084e0b0c99ded", func := "parlance/parllaw1.MiniSames", spec := "miniSames", unfollowed := true, recurses := true, plainKeys := false, apart := false }
def MiniSamesSaid : Prop := miniSamesRow.holds Try.pinned (OpenSpec.ofChange miniSamesSpec)

/-- ITS FALSE NEIGHBOUR: 'it returns false'. Refute it at one input. -/
def miniSamesWrong : ChangeSpec := { name := "miniSames", fn := fun _ => fun
  | [d1, d2] => { results := [.lit (.bool false)], args := [d1, d2] }
  | _ => none }
def MiniSamesWrongFalsely : Prop := miniSamesRow.holds Try.pinned (OpenSpec.ofChange miniSamesWrong)

/-- 'parlkeep1.MiniReversed': WHATEVER THE INPUT: true; the input reads as it did. -/
def miniReversedSpec : ChangeSpec := { name := "miniReversed", fn := fun _ => fun
  | [d] => { results := [.lit (.bool true)], args := [d] }
  | _ => none }
def miniReversedRow : OpenClaim := { program := "ytncmfkibflogkaa", sum := "1cde8dddc9d0af9900205f7e73acd26c99ef36a5bfad671734c084e0b0c99ded", func := "parlance/parlkeep1.MiniReversed", spec := "miniReversed", unfollowed := true, recurses := true, plainKeys := false, apart := false }
def MiniReversedSaid : Prop := miniReversedRow.holds Try.pinned (OpenSpec.ofChange miniReversedSpec)

/-- ITS FALSE NEIGHBOUR: 'it returns false'. Refute it at one input. -/
def miniReversedWrong : ChangeSpec := { name := "miniReversed", fn := fun _ => fun
  | [d] => { results := [.lit (.bool false)], args := [d] }
  | _ => none }
def MiniReversedWrongFalsely : Prop := miniReversedRow.holds Try.pinned (OpenSpec.ofChange miniReversedWrong)

/-- 'parlkeep1.DfaCounts': WHATEVER THE INPUT: true; the input reads as it did. -/
def dfaCountsSpec : ChangeSpec := { name := "dfaCounts", fn := fun _ => fun
  | [d] => { results := [.lit (.bool true)], args := [d] }
  | _ => none }
def dfaCountsRow : OpenClaim := { program := "ytncmfkibflogkaa", sum := "1cde8dddc9d0af9900205f7e73acd26c99ef36a5bfad671734c084e0b0c99ded", func := "parlance/parlkeep1.DfaCounts", spec := "dfaCounts", unfollowed := true, recurses := true, plainKeys := false, apart := false }
def DfaCountsSaid : Prop := dfaCountsRow.holds Try.pinned (OpenSpec.ofChange dfaCountsSpec)

/-- ITS FALSE NEIGHBOUR: 'it returns false'. Refute it at one input. -/
def dfaCountsWrong : ChangeSpec := { name := "dfaCounts", fn := fun _ => fun
  | [d] => { results := [.lit (.bool false)], args := [d] }
  | _ => none }
def DfaCountsWrongFalsely : Prop := dfaCountsRow.holds Try.pinned (OpenSpec.ofChange dfaCountsWrong)

/-- 'parlkeep1.DfaBoole': WHATEVER THE INPUT: true; the input reads as it did. -/
def dfaBooleSpec : ChangeSpec := { name := "dfaBoole", fn := fun _ => fun
  | [d1, d2, d3] => { results := [.lit (.bool true)], args := [d1, d2, d3] }
  | _ => none }
def dfaBooleRow : OpenClaim := { program := "ytncmfkibflogkaa", sum := "1cde8dddc9d0af9900205f7e73acd26c99ef36a5bfad671734c084e0b0c99ded", func := "parlance/parlkeep1.DfaBoole", spec := "dfaBoole", unfollowed := true, recurses := true, plainKeys := false, apart := false }
def DfaBooleSaid : Prop := dfaBooleRow.holds Try.pinned (OpenSpec.ofChange dfaBooleSpec)

/-- ITS FALSE NEIGHBOUR: 'it returns false'. Refute it at one input. -/
def dfaBooleWrong : ChangeSpec := { name := "dfaBoole", fn := fun _ => fun
  | [d1, d2, d3] => { results := [.lit (.bool false)], args := [d1, d2, d3] }
  | _ => none }
def DfaBooleWrongFalsely : Prop := dfaBooleRow.holds Try.pinned (OpenSpec.ofChange dfaBooleWrong)

/-- 'parlkeep1.MiniTold': WHATEVER THE INPUT: true; the input reads as it did. -/
def miniToldSpec : ChangeSpec := { name := "miniTold", fn := fun _ => fun
  | [d1, d2, d3] => { results := [.lit (.bool true)], args := [d1, d2, d3] }
  | _ => none }
def miniToldRow : OpenClaim := { program := "ytncmfkibflogkaa", sum := "1cde8dddc9d0af9900205f7e73acd26c99ef36a5bfad671734c084e0b0c99ded", func := "parlance/parlkeep1.MiniTold", spec := "miniTold", unfollowed := true, recurses := true, plainKeys := false, apart := false }
def MiniToldSaid : Prop := miniToldRow.holds Try.pinned (OpenSpec.ofChange miniToldSpec)

/-- ITS FALSE NEIGHBOUR: 'it returns false'. Refute it at one input. -/
def miniToldWrong : ChangeSpec := { name := "miniTold", fn := fun _ => fun
  | [d1, d2, d3] => { results := [.lit (.bool false)], args := [d1, d2, d3] }
  | _ => none }
def MiniToldWrongFalsely : Prop := miniToldRow.holds Try.pinned (OpenSpec.ofChange miniToldWrong)

/-- 'parlkeep1.MiniNerode': WHATEVER THE INPUT: true; the input reads as it did. -/
def miniNerodeSpec : ChangeSpec := { name := "miniNerode", fn := fun _ => fun
  | [d1, d2] => { results := [.lit (.bool true)], args := [d1, d2] }
  | _ => none }
def miniNerodeRow : OpenClaim := { program := "ytncmfkibflogkaa", sum := "1cde8dddc9d0af9900205f7e73acd26c99ef36a5bfad671734c084e0b0c99ded", func := "parlance/parlkeep1.MiniNerode", spec := "miniNerode", unfollowed := true, recurses := true, plainKeys := false, apart := false }
def MiniNerodeSaid : Prop := miniNerodeRow.holds Try.pinned (OpenSpec.ofChange miniNerodeSpec)

/-- ITS FALSE NEIGHBOUR: 'it returns false'. Refute it at one input. -/
def miniNerodeWrong : ChangeSpec := { name := "miniNerode", fn := fun _ => fun
  | [d1, d2] => { results := [.lit (.bool false)], args := [d1, d2] }
  | _ => none }
def MiniNerodeWrongFalsely : Prop := miniNerodeRow.holds Try.pinned (OpenSpec.ofChange miniNerodeWrong)

/-- 'parlkeep1.PackBack': WHATEVER THE INPUT: true; the input reads as it did. -/
def packBackSpec : ChangeSpec := { name := "packBack", fn := fun _ => fun
  | [d] => { results := [.lit (.bool true)], args := [d] }
  | _ => none }
def packBackRow : OpenClaim := { program := "ytncmfkibflogkaa", sum := "1cde8dddc9d0af9900205f7e73acd26c99ef36a5bfad671734c084e0b0c99ded", func := "parlance/parlkeep1.PackBack", spec := "packBack", unfollowed := true, recurses := true, plainKeys := false, apart := false }
def PackBackSaid : Prop := packBackRow.holds Try.pinned (OpenSpec.ofChange packBackSpec)

/-- ITS FALSE NEIGHBOUR: 'it returns false'. Refute it at one input. -/
def packBackWrong : ChangeSpec := { name := "packBack", fn := fun _ => fun
  | [d] => { results := [.lit (.bool false)], args := [d] }
  | _ => none }
def PackBackWrongFalsely : Prop := packBackRow.holds Try.pinned (OpenSpec.ofChange packBackWrong)

/-- 'parllaw1.RowpackTells': WHATEVER THE INPUT: true; the input reads as it did. -/
def rowpackTellsSpec : ChangeSpec := { name := "rowpackTells", fn := fun _ => fun
  | [d] => { results := [.lit (.bool true)], args := [d] }
  | _ => none }
def rowpackTellsRow : OpenClaim := { program := "ytncmfkibflogkaa", sum := "1cde8dddc9d0af9900205f7e73acd26c99ef36a5bfad671734c084e0b0c99ded", func := "parlance/parllaw1.RowpackTells", spec := "rowpackTells", unfollowed := true, recurses := true, plainKeys := false, apart := false }
def RowpackTellsSaid : Prop := rowpackTellsRow.holds Try.pinned (OpenSpec.ofChange rowpackTellsSpec)

/-- ITS FALSE NEIGHBOUR: 'it returns false'. Refute it at one input. -/
def rowpackTellsWrong : ChangeSpec := { name := "rowpackTells", fn := fun _ => fun
  | [d] => { results := [.lit (.bool false)], args := [d] }
  | _ => none }
def RowpackTellsWrongFalsely : Prop := rowpackTellsRow.holds Try.pinned (OpenSpec.ofChange rowpackTellsWrong)

/- THE SECOND FORM. 'bulk': how many values and letters a reading holds, each counted each time it is reached (what is shared counts as often as it is met; a slice's spare places count too). A statement '..UptoSaid' is the law's where the arguments, and the package variables that the reading takes, are together of bulk at most 1048576: NARROWER than '..Said'. Prove '..Said' where nothing that the law and all that it calls make is longer than what came in: it says more and counts as full. Else prove '..UptoSaid'. A law counts once. -/
mutual
def uptoBulk {H : Type} : DataW H → Nat
  | .lit (.string bytes) => bytes.length + 1
  | .lit _ => 1
  | .nil => 1
  | .ptr d => uptoBulk d + 1
  | .slice elems spare => uptoBulkAll elems + uptoBulkAll spare + 1
  | .agg parts => uptoBulkAll parts + 1
  | .iface _ d => uptoBulk d + 1
  | .map entries => uptoBulkEntries entries + 1
  | .held _ => 1
def uptoBulkAll {H : Type} : List (DataW H) → Nat
  | [] => 0
  | d :: r => uptoBulk d + uptoBulkAll r
def uptoBulkEntries {H : Type} : List (Lit × DataW H) → Nat
  | [] => 0
  | x :: r => uptoBulkEntry x + uptoBulkEntries r
def uptoBulkEntry {H : Type} : Lit × DataW H → Nat
  | (.string bytes, d) => bytes.length + uptoBulk d + 1
  | (_, d) => uptoBulk d + 1
 end
def uptoSmall : (H : Type) → List (DataW H) → Bool := fun _ ds => decide (uptoBulkAll ds ≤ 1048576)
def OpenSpec.upto (s : _root_.Go.ChangeSpec) : _root_.Go.OpenSpec := { _root_.Go.OpenSpec.ofChange s with cond := some uptoSmall }

/-- 'parllaw1.MiniSames', WHERE WHAT IT READS IS OF BULK AT MOST 1048576: true; the input reads as it did. -/
def miniSamesUptoRow : OpenClaim := { program := "ytncmfkibflogkaa", sum := "1cde8dddc9d0af9900205f7e73acd26c99ef36a5bfad671734c084e0b0c99ded", func := "parlance/parllaw1.MiniSames", spec := "miniSames", unfollowed := true, recurses := true, plainKeys := false, apart := false, narrowed := true }
def MiniSamesUptoSaid : Prop := miniSamesUptoRow.holds Try.pinned (OpenSpec.upto miniSamesSpec)

/-- 'parlkeep1.MiniReversed', WHERE WHAT IT READS IS OF BULK AT MOST 1048576: true; the input reads as it did. -/
def miniReversedUptoRow : OpenClaim := { program := "ytncmfkibflogkaa", sum := "1cde8dddc9d0af9900205f7e73acd26c99ef36a5bfad671734c084e0b0c99ded", func := "parlance/parlkeep1.MiniReversed", spec := "miniReversed", unfollowed := true, recurses := true, plainKeys := false, apart := false, narrowed := true }
def MiniReversedUptoSaid : Prop := miniReversedUptoRow.holds Try.pinned (OpenSpec.upto miniReversedSpec)

/-- 'parlkeep1.DfaCounts', WHERE WHAT IT READS IS OF BULK AT MOST 1048576: true; the input reads as it did. -/
def dfaCountsUptoRow : OpenClaim := { program := "ytncmfkibflogkaa", sum := "1cde8dddc9d0af9900205f7e73acd26c99ef36a5bfad671734c084e0b0c99ded", func := "parlance/parlkeep1.DfaCounts", spec := "dfaCounts", unfollowed := true, recurses := true, plainKeys := false, apart := false, narrowed := true }
def DfaCountsUptoSaid : Prop := dfaCountsUptoRow.holds Try.pinned (OpenSpec.upto dfaCountsSpec)

/-- 'parlkeep1.DfaBoole', WHERE WHAT IT READS IS OF BULK AT MOST 1048576: true; the input reads as it did. -/
def dfaBooleUptoRow : OpenClaim := { program := "ytncmfkibflogkaa", sum := "1cde8dddc9d0af9900205f7e73acd26c99ef36a5bfad671734c084e0b0c99ded", func := "parlance/parlkeep1.DfaBoole", spec := "dfaBoole", unfollowed := true, recurses := true, plainKeys := false, apart := false, narrowed := true }
def DfaBooleUptoSaid : Prop := dfaBooleUptoRow.holds Try.pinned (OpenSpec.upto dfaBooleSpec)

/-- 'parlkeep1.MiniTold', WHERE WHAT IT READS IS OF BULK AT MOST 1048576: true; the input reads as it did. -/
def miniToldUptoRow : OpenClaim := { program := "ytncmfkibflogkaa", sum := "1cde8dddc9d0af9900205f7e73acd26c99ef36a5bfad671734c084e0b0c99ded", func := "parlance/parlkeep1.MiniTold", spec := "miniTold", unfollowed := true, recurses := true, plainKeys := false, apart := false, narrowed := true }
def MiniToldUptoSaid : Prop := miniToldUptoRow.holds Try.pinned (OpenSpec.upto miniToldSpec)

/-- 'parlkeep1.MiniNerode', WHERE WHAT IT READS IS OF BULK AT MOST 1048576: true; the input reads as it did. -/
def miniNerodeUptoRow : OpenClaim := { program := "ytncmfkibflogkaa", sum := "1cde8dddc9d0af9900205f7e73acd26c99ef36a5bfad671734c084e0b0c99ded", func := "parlance/parlkeep1.MiniNerode", spec := "miniNerode", unfollowed := true, recurses := true, plainKeys := false, apart := false, narrowed := true }
def MiniNerodeUptoSaid : Prop := miniNerodeUptoRow.holds Try.pinned (OpenSpec.upto miniNerodeSpec)

/-- 'parlkeep1.PackBack', WHERE WHAT IT READS IS OF BULK AT MOST 1048576: true; the input reads as it did. -/
def packBackUptoRow : OpenClaim := { program := "ytncmfkibflogkaa", sum := "1cde8dddc9d0af9900205f7e73acd26c99ef36a5bfad671734c084e0b0c99ded", func := "parlance/parlkeep1.PackBack", spec := "packBack", unfollowed := true, recurses := true, plainKeys := false, apart := false, narrowed := true }
def PackBackUptoSaid : Prop := packBackUptoRow.holds Try.pinned (OpenSpec.upto packBackSpec)

/-- 'parllaw1.RowpackTells', WHERE WHAT IT READS IS OF BULK AT MOST 1048576: true; the input reads as it did. -/
def rowpackTellsUptoRow : OpenClaim := { program := "ytncmfkibflogkaa", sum := "1cde8dddc9d0af9900205f7e73acd26c99ef36a5bfad671734c084e0b0c99ded", func := "parlance/parllaw1.RowpackTells", spec := "rowpackTells", unfollowed := true, recurses := true, plainKeys := false, apart := false, narrowed := true }
def RowpackTellsUptoSaid : Prop := rowpackTellsUptoRow.holds Try.pinned (OpenSpec.upto rowpackTellsSpec)

end Rows
end Go.Proofs.Ytncmfkibflogkaa
