/-
  NARROWER THAN 'FOR EVERY INPUT', by the rows' own cells (each row's printed sentence says how): CaptureTells: loops.
  DERIVED. THE GIVEN ROWS OF THIS SEAT. 3 by the template 'for every input the law returns true; each argument reads behind the call as it read before'; 0 by the template 'total and deterministic' (their statements: YtgifkdbbgffemaaTotals.lean).
  GIVEN WITH THE SEED: the statements are not yours to turn. If you find one false, say at which input.
  Laid BY PROGRAM, IN A SANDBOX (cutbox-rows.mjs): the forced cells as the released guide's own fill.sh prints them over the translation 6a004569dea00c86… (all of the seat's roots in one cut). By AI agents, Wed Nov 11 2026. No macro, syntax, notation, axiom, sorry.
-/
import Derived.Test.YtgifkdbbgffemaaChecked
import GoSem.Claim
import GoSem.ClaimJoined
import GoSem.ClaimMapViews
import Derived.JoinedTies
import Derived.KernelRfl
namespace Go.Proofs.Ytgifkdbbgffemaa
/- THE CELL 'sum', in the pinned program and in every row, IS THE sha256 OF THE DUMP (.gsa) THAT YtgifkdbbgffemaaProg.lean LOADS. Nothing in Lean hashes anything: it is a label: what it is worth is what the hold of that sum in a sandbox is worth. -/
noncomputable def Try.pinned : Pinned := { name := "ytgifkdbbgffemaa", sum := "6a004569dea00c8626b4c9694bbc4e33bd6101cc561c0f23366c90fc70078f95", checked := Try.checked }
namespace Rows
def none {H : Type} : Left H := { results := [], args := [] }

/-- 'parlkeep1.CaptureTwo': WHATEVER THE INPUT: true; the input reads as it did. -/
def captureTwoSpec : ChangeSpec := { name := "captureTwo", fn := fun _ => fun
  | [d1, d2] => { results := [.lit (.bool true)], args := [d1, d2] }
  | _ => none }
def captureTwoRow : OpenClaim := { program := "ytgifkdbbgffemaa", sum := "6a004569dea00c8626b4c9694bbc4e33bd6101cc561c0f23366c90fc70078f95", func := "parlance/parlkeep1.CaptureTwo", spec := "captureTwo", unfollowed := true, recurses := true, plainKeys := false, apart := false }
def CaptureTwoSaid : Prop := captureTwoRow.holds Try.pinned (OpenSpec.ofChange captureTwoSpec)

/-- ITS FALSE NEIGHBOUR: 'it returns false'. Refute it at one input. -/
def captureTwoWrong : ChangeSpec := { name := "captureTwo", fn := fun _ => fun
  | [d1, d2] => { results := [.lit (.bool false)], args := [d1, d2] }
  | _ => none }
def CaptureTwoWrongFalsely : Prop := captureTwoRow.holds Try.pinned (OpenSpec.ofChange captureTwoWrong)

/-- 'parlkeep1.CaptureApart': WHATEVER THE INPUT: true; the input reads as it did. -/
def captureApartSpec : ChangeSpec := { name := "captureApart", fn := fun _ => fun
  | [d1, d2] => { results := [.lit (.bool true)], args := [d1, d2] }
  | _ => none }
def captureApartRow : OpenClaim := { program := "ytgifkdbbgffemaa", sum := "6a004569dea00c8626b4c9694bbc4e33bd6101cc561c0f23366c90fc70078f95", func := "parlance/parlkeep1.CaptureApart", spec := "captureApart", unfollowed := true, recurses := true, plainKeys := false, apart := false }
def CaptureApartSaid : Prop := captureApartRow.holds Try.pinned (OpenSpec.ofChange captureApartSpec)

/-- ITS FALSE NEIGHBOUR: 'it returns false'. Refute it at one input. -/
def captureApartWrong : ChangeSpec := { name := "captureApart", fn := fun _ => fun
  | [d1, d2] => { results := [.lit (.bool false)], args := [d1, d2] }
  | _ => none }
def CaptureApartWrongFalsely : Prop := captureApartRow.holds Try.pinned (OpenSpec.ofChange captureApartWrong)

/-- 'parllaw1.CaptureTells': WHATEVER THE INPUT: true; the input reads as it did. -/
def captureTellsSpec : ChangeSpec := { name := "captureTells", fn := fun _ => fun
  | [d1, d2] => { results := [.lit (.bool true)], args := [d1, d2] }
  | _ => none }
def captureTellsRow : OpenClaim := { program := "ytgifkdbbgffemaa", sum := "6a004569dea00c8626b4c9694bbc4e33bd6101cc561c0f23366c90fc70078f95", func := "parlance/parllaw1.CaptureTells", spec := "captureTells", unfollowed := true, recurses := true, loops := true, plainKeys := false, apart := false }
def CaptureTellsSaid : Prop := captureTellsRow.holds Try.pinned (OpenSpec.ofChange captureTellsSpec)

/-- ITS FALSE NEIGHBOUR: 'it returns false'. Refute it at one input. -/
def captureTellsWrong : ChangeSpec := { name := "captureTells", fn := fun _ => fun
  | [d1, d2] => { results := [.lit (.bool false)], args := [d1, d2] }
  | _ => none }
def CaptureTellsWrongFalsely : Prop := captureTellsRow.holds Try.pinned (OpenSpec.ofChange captureTellsWrong)

/- THE SECOND FORM. 'bulk': how many values and letters a reading holds, each counted each time it is reached (what is shared counts as often as it is met; a slice's spare places count too). A statement '..UptoSaid' is the law's where the arguments, and the package variables that the reading takes, are together of bulk at most 1048576: NARROWER than '..Said'. Prove '..Said' where nothing that the law and all that it calls make is longer than what came in: it says more and counts as full. Else prove '..UptoSaid'. A law counts once. -/
mutual
def uptoBulk {H : Type} : DataW H → Nat
  | .lit (.string bytes) => bytes.length + 1
  | .lit _ => 1
  | .nil => 1
  | .ptr d => uptoBulk d + 1
  | .slice elems spare => uptoBulkAll elems + uptoBulkAll spare + 1
  | .agg parts => uptoBulkAll parts + 1
  | .iface _ d => uptoBulk d + 1
  | .map entries => uptoBulkEntries entries + 1
  | .held _ => 1
def uptoBulkAll {H : Type} : List (DataW H) → Nat
  | [] => 0
  | d :: r => uptoBulk d + uptoBulkAll r
def uptoBulkEntries {H : Type} : List (Lit × DataW H) → Nat
  | [] => 0
  | x :: r => uptoBulkEntry x + uptoBulkEntries r
def uptoBulkEntry {H : Type} : Lit × DataW H → Nat
  | (.string bytes, d) => bytes.length + uptoBulk d + 1
  | (_, d) => uptoBulk d + 1
 end
def uptoSmall : (H : Type) → List (DataW H) → Bool := fun _ ds => decide (uptoBulkAll ds ≤ 1048576)
def OpenSpec.upto (s : _root_.Go.ChangeSpec) : _root_.Go.OpenSpec := { _root_.Go.OpenSpec.ofChange s with cond := some uptoSmall }

/-- 'parlkeep1.CaptureTwo', WHERE WHAT IT READS IS OF BULK AT MOST 1048576: true; the input reads as it did. -/
def captureTwoUptoRow : OpenClaim := { program := "ytgifkdbbgffemaa", sum := "6a004569dea00c8626b4c9694bbc4e33bd6101cc561c0f23366c90fc70078f95", func := "parlance/parlkeep1.CaptureTwo", spec := "captureTwo", unfollowed := true, recurses := true, plainKeys := false, apart := false, narrowed := true }
def CaptureTwoUptoSaid : Prop := captureTwoUptoRow.holds Try.pinned (OpenSpec.upto captureTwoSpec)

/-- 'parlkeep1.CaptureApart', WHERE WHAT IT READS IS OF BULK AT MOST 1048576: true; the input reads as it did. -/
def captureApartUptoRow : OpenClaim := { program := "ytgifkdbbgffemaa", sum := "6a004569dea00c8626b4c9694bbc4e33bd6101cc561c0f23366c90fc70078f95", func := "parlance/parlkeep1.CaptureApart", spec := "captureApart", unfollowed := true, recurses := true, plainKeys := false, apart := false, narrowed := true }
def CaptureApartUptoSaid : Prop := captureApartUptoRow.holds Try.pinned (OpenSpec.upto captureApartSpec)

/-- 'parllaw1.CaptureTells', WHERE WHAT IT READS IS OF BULK AT MOST 1048576: true; the input reads as it did. -/
def captureTellsUptoRow : OpenClaim := { program := "ytgifkdbbgffemaa", sum := "6a004569dea00c8626b4c9694bbc4e33bd6101cc561c0f23366c90fc70078f95", func := "parlance/parllaw1.CaptureTells", spec := "captureTells", unfollowed := true, recurses := true, loops := true, plainKeys := false, apart := false, narrowed := true }
def CaptureTellsUptoSaid : Prop := captureTellsUptoRow.holds Try.pinned (OpenSpec.upto captureTellsSpec)

end Rows
end Go.Proofs.Ytgifkdbbgffemaa
