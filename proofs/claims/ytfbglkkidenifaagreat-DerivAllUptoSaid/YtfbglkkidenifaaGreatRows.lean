/-
  NARROWER THAN 'FOR EVERY INPUT', by the rows' own cells (each row's printed sentence says how): DerivTells: loops · DerivAll: loops · DfaMakes: loops · DfaOvers: loops.
  DERIVED. THE GIVEN ROWS OF THIS SEAT. 6 by the template 'for every input the law returns true; each argument reads behind the call as it read before'; 0 by the template 'total and deterministic' (their statements: YtfbglkkidenifaaGreatTotals.lean).
  GIVEN WITH THE SEED: the statements are not yours to turn. If you find one false, say at which input.
  Laid BY PROGRAM, IN A SANDBOX (cutbox-rows.mjs): the forced cells as the released guide's own fill.sh prints them over the translation 73053a6c50b68c10… (all of the seat's roots in one cut). By AI agents, Wed Nov 11 2026. No macro, syntax, notation, axiom, sorry.
-/
import Derived.Test.YtfbglkkidenifaaGreatChecked
import GoSem.Claim
import GoSem.ClaimJoined
import GoSem.ClaimMapViews
import Derived.JoinedTies
import Derived.KernelRfl
namespace Go.Proofs.YtfbglkkidenifaaGreat
/- THE CELL 'sum', in the pinned program and in every row, IS THE sha256 OF THE DUMP (.gsa) THAT YtfbglkkidenifaaGreatProg.lean LOADS. Nothing in Lean hashes anything: it is a label: what it is worth is what the hold of that sum in a sandbox is worth. -/
noncomputable def Tryz.pinned : Pinned := { name := "ytfbglkkidenifaagreat", sum := "73053a6c50b68c102212c159c0884ef627a3c2b31593dce7f44b10927eb3cb14", checked := Tryz.checked }
namespace Rows
def none {H : Type} : Left H := { results := [], args := [] }

/-- 'parllaw1.DerivTells': WHATEVER THE INPUT: true; the input reads as it did. -/
def derivTellsSpec : ChangeSpec := { name := "derivTells", fn := fun _ => fun
  | [d1, d2, d3] => { results := [.lit (.bool true)], args := [d1, d2, d3] }
  | _ => none }
def derivTellsRow : OpenClaim := { program := "ytfbglkkidenifaagreat", sum := "73053a6c50b68c102212c159c0884ef627a3c2b31593dce7f44b10927eb3cb14", func := "parlance/parllaw1.DerivTells", spec := "derivTells", unfollowed := true, recurses := true, loops := true, plainKeys := false, apart := false }
def DerivTellsSaid : Prop := derivTellsRow.holds Tryz.pinned (OpenSpec.ofChange derivTellsSpec)

/-- ITS FALSE NEIGHBOUR: 'it returns false'. Refute it at one input. -/
def derivTellsWrong : ChangeSpec := { name := "derivTells", fn := fun _ => fun
  | [d1, d2, d3] => { results := [.lit (.bool false)], args := [d1, d2, d3] }
  | _ => none }
def DerivTellsWrongFalsely : Prop := derivTellsRow.holds Tryz.pinned (OpenSpec.ofChange derivTellsWrong)

/-- 'parlkeep1.DerivCloses': WHATEVER THE INPUT: true; the input reads as it did. -/
def derivClosesSpec : ChangeSpec := { name := "derivCloses", fn := fun _ => fun
  | [d1, d2] => { results := [.lit (.bool true)], args := [d1, d2] }
  | _ => none }
def derivClosesRow : OpenClaim := { program := "ytfbglkkidenifaagreat", sum := "73053a6c50b68c102212c159c0884ef627a3c2b31593dce7f44b10927eb3cb14", func := "parlance/parlkeep1.DerivCloses", spec := "derivCloses", unfollowed := true, recurses := true, plainKeys := false, apart := false }
def DerivClosesSaid : Prop := derivClosesRow.holds Tryz.pinned (OpenSpec.ofChange derivClosesSpec)

/-- ITS FALSE NEIGHBOUR: 'it returns false'. Refute it at one input. -/
def derivClosesWrong : ChangeSpec := { name := "derivCloses", fn := fun _ => fun
  | [d1, d2] => { results := [.lit (.bool false)], args := [d1, d2] }
  | _ => none }
def DerivClosesWrongFalsely : Prop := derivClosesRow.holds Tryz.pinned (OpenSpec.ofChange derivClosesWrong)

/-- 'parllaw1.DerivAll': WHATEVER THE INPUT: true; the input reads as it did. -/
def derivAllSpec : ChangeSpec := { name := "derivAll", fn := fun _ => fun
  | [d] => { results := [.lit (.bool true)], args := [d] }
  | _ => none }
def derivAllRow : OpenClaim := { program := "ytfbglkkidenifaagreat", sum := "73053a6c50b68c102212c159c0884ef627a3c2b31593dce7f44b10927eb3cb14", func := "parlance/parllaw1.DerivAll", spec := "derivAll", unfollowed := true, recurses := true, loops := true, plainKeys := false, apart := false }
def DerivAllSaid : Prop := derivAllRow.holds Tryz.pinned (OpenSpec.ofChange derivAllSpec)

/-- ITS FALSE NEIGHBOUR: 'it returns false'. Refute it at one input. -/
def derivAllWrong : ChangeSpec := { name := "derivAll", fn := fun _ => fun
  | [d] => { results := [.lit (.bool false)], args := [d] }
  | _ => none }
def DerivAllWrongFalsely : Prop := derivAllRow.holds Tryz.pinned (OpenSpec.ofChange derivAllWrong)

/-- 'parllaw1.DfaTells': WHATEVER THE INPUT: true; the input reads as it did. -/
def dfaTellsSpec : ChangeSpec := { name := "dfaTells", fn := fun _ => fun
  | [d1, d2, d3] => { results := [.lit (.bool true)], args := [d1, d2, d3] }
  | _ => none }
def dfaTellsRow : OpenClaim := { program := "ytfbglkkidenifaagreat", sum := "73053a6c50b68c102212c159c0884ef627a3c2b31593dce7f44b10927eb3cb14", func := "parlance/parllaw1.DfaTells", spec := "dfaTells", unfollowed := true, recurses := true, plainKeys := false, apart := false }
def DfaTellsSaid : Prop := dfaTellsRow.holds Tryz.pinned (OpenSpec.ofChange dfaTellsSpec)

/-- ITS FALSE NEIGHBOUR: 'it returns false'. Refute it at one input. -/
def dfaTellsWrong : ChangeSpec := { name := "dfaTells", fn := fun _ => fun
  | [d1, d2, d3] => { results := [.lit (.bool false)], args := [d1, d2, d3] }
  | _ => none }
def DfaTellsWrongFalsely : Prop := dfaTellsRow.holds Tryz.pinned (OpenSpec.ofChange dfaTellsWrong)

/-- 'parllaw1.DfaMakes': WHATEVER THE INPUT: true; the input reads as it did. -/
def dfaMakesSpec : ChangeSpec := { name := "dfaMakes", fn := fun _ => fun
  | [d1, d2] => { results := [.lit (.bool true)], args := [d1, d2] }
  | _ => none }
def dfaMakesRow : OpenClaim := { program := "ytfbglkkidenifaagreat", sum := "73053a6c50b68c102212c159c0884ef627a3c2b31593dce7f44b10927eb3cb14", func := "parlance/parllaw1.DfaMakes", spec := "dfaMakes", unfollowed := true, recurses := true, loops := true, plainKeys := false, apart := false }
def DfaMakesSaid : Prop := dfaMakesRow.holds Tryz.pinned (OpenSpec.ofChange dfaMakesSpec)

/-- ITS FALSE NEIGHBOUR: 'it returns false'. Refute it at one input. -/
def dfaMakesWrong : ChangeSpec := { name := "dfaMakes", fn := fun _ => fun
  | [d1, d2] => { results := [.lit (.bool false)], args := [d1, d2] }
  | _ => none }
def DfaMakesWrongFalsely : Prop := dfaMakesRow.holds Tryz.pinned (OpenSpec.ofChange dfaMakesWrong)

/-- 'parllaw1.DfaOvers': WHATEVER THE INPUT: true; the input reads as it did. -/
def dfaOversSpec : ChangeSpec := { name := "dfaOvers", fn := fun _ => fun
  | [d1, d2] => { results := [.lit (.bool true)], args := [d1, d2] }
  | _ => none }
def dfaOversRow : OpenClaim := { program := "ytfbglkkidenifaagreat", sum := "73053a6c50b68c102212c159c0884ef627a3c2b31593dce7f44b10927eb3cb14", func := "parlance/parllaw1.DfaOvers", spec := "dfaOvers", unfollowed := true, recurses := true, loops := true, plainKeys := false, apart := false }
def DfaOversSaid : Prop := dfaOversRow.holds Tryz.pinned (OpenSpec.ofChange dfaOversSpec)

/-- ITS FALSE NEIGHBOUR: 'it returns false'. Refute it at one input. -/
def dfaOversWrong : ChangeSpec := { name := "dfaOvers", fn := fun _ => fun
  | [d1, d2] => { results := [.lit (.bool false)], args := [d1, d2] }
  | _ => none }
def DfaOversWrongFalsely : Prop := dfaOversRow.holds Tryz.pinned (OpenSpec.ofChange dfaOversWrong)

/- THE SECOND FORM. 'bulk': how many values and letters a reading holds, each counted each time it is reached (what is shared counts as often as it is met; a slice's spare places count too). A statement '..UptoSaid' is the law's where the arguments, and the package variables that the reading takes, are together of bulk at most 1048576: NARROWER than '..Said'. Prove '..Said' where nothing that the law and all that it calls make is longer than what came in: it says more and counts as full. Else prove '..UptoSaid'. A law counts once. -/
mutual
def uptoBulk {H : Type} : DataW H → Nat
  | .lit (.string bytes) => bytes.length + 1
  | .lit _ => 1
  | .nil => 1
  | .ptr d => uptoBulk d + 1
  | .slice elems spare => uptoBulkAll elems + uptoBulkAll spare + 1
  | .agg parts => uptoBulkAll parts + 1
  | .iface _ d => uptoBulk d + 1
  | .map entries => uptoBulkEntries entries + 1
  | .held _ => 1
def uptoBulkAll {H : Type} : List (DataW H) → Nat
  | [] => 0
  | d :: r => uptoBulk d + uptoBulkAll r
def uptoBulkEntries {H : Type} : List (Lit × DataW H) → Nat
  | [] => 0
  | x :: r => uptoBulkEntry x + uptoBulkEntries r
def uptoBulkEntry {H : Type} : Lit × DataW H → Nat
  | (.string bytes, d) => bytes.length + uptoBulk d + 1
  | (_, d) => uptoBulk d + 1
 end
def uptoSmall : (H : Type) → List (DataW H) → Bool := fun _ ds => decide (uptoBulkAll ds ≤ 1048576)
def OpenSpec.upto (s : _root_.Go.ChangeSpec) : _root_.Go.OpenSpec := { _root_.Go.OpenSpec.ofChange s with cond := some uptoSmall }

/-- 'parllaw1.DerivTells', WHERE WHAT IT READS IS OF BULK AT MOST 1048576: true; the input reads as it did. -/
def derivTellsUptoRow : OpenClaim := { program := "ytfbglkkidenifaagreat", sum := "73053a6c50b68c102212c159c0884ef627a3c2b31593dce7f44b10927eb3cb14", func := "parlance/parllaw1.DerivTells", spec := "derivTells", unfollowed := true, recurses := true, loops := true, plainKeys := false, apart := false, narrowed := true }
def DerivTellsUptoSaid : Prop := derivTellsUptoRow.holds Tryz.pinned (OpenSpec.upto derivTellsSpec)

/-- 'parlkeep1.DerivCloses', WHERE WHAT IT READS IS OF BULK AT MOST 1048576: true; the input reads as it did. -/
def derivClosesUptoRow : OpenClaim := { program := "ytfbglkkidenifaagreat", sum := "73053a6c50b68c102212c159c0884ef627a3c2b31593dce7f44b10927eb3cb14", func := "parlance/parlkeep1.DerivCloses", spec := "derivCloses", unfollowed := true, recurses := true, plainKeys := false, apart := false, narrowed := true }
def DerivClosesUptoSaid : Prop := derivClosesUptoRow.holds Tryz.pinned (OpenSpec.upto derivClosesSpec)

/-- 'parllaw1.DerivAll', WHERE WHAT IT READS IS OF BULK AT MOST 1048576: true; the input reads as it did. -/
def derivAllUptoRow : OpenClaim := { program := "ytfbglkkidenifaagreat", sum := "73053a6c50b68c102212c159c0884ef627a3c2b31593dce7f44b10927eb3cb14", func := "parlance/parllaw1.DerivAll", spec := "derivAll", unfollowed := true, recurses := true, loops := true, plainKeys := false, apart := false, narrowed := true }
def DerivAllUptoSaid : Prop := derivAllUptoRow.holds Tryz.pinned (OpenSpec.upto derivAllSpec)

/-- 'parllaw1.DfaTells', WHERE WHAT IT READS IS OF BULK AT MOST 1048576: true; the input reads as it did. -/
def dfaTellsUptoRow : OpenClaim := { program := "ytfbglkkidenifaagreat", sum := "73053a6c50b68c102212c159c0884ef627a3c2b31593dce7f44b10927eb3cb14", func := "parlance/parllaw1.DfaTells", spec := "dfaTells", unfollowed := true, recurses := true, plainKeys := false, apart := false, narrowed := true }
def DfaTellsUptoSaid : Prop := dfaTellsUptoRow.holds Tryz.pinned (OpenSpec.upto dfaTellsSpec)

/-- 'parllaw1.DfaMakes', WHERE WHAT IT READS IS OF BULK AT MOST 1048576: true; the input reads as it did. -/
def dfaMakesUptoRow : OpenClaim := { program := "ytfbglkkidenifaagreat", sum := "73053a6c50b68c102212c159c0884ef627a3c2b31593dce7f44b10927eb3cb14", func := "parlance/parllaw1.DfaMakes", spec := "dfaMakes", unfollowed := true, recurses := true, loops := true, plainKeys := false, apart := false, narrowed := true }
def DfaMakesUptoSaid : Prop := dfaMakesUptoRow.holds Tryz.pinned (OpenSpec.upto dfaMakesSpec)

/-- 'parllaw1.DfaOvers', WHERE WHAT IT READS IS OF BULK AT MOST 1048576: true; the input reads as it did. -/
def dfaOversUptoRow : OpenClaim := { program := "ytfbglkkidenifaagreat", sum := "73053a6c50b68c102212c159c0884ef627a3c2b31593dce7f44b10927eb3cb14", func := "parlance/parllaw1.DfaOvers", spec := "dfaOvers", unfollowed := true, recurses := true, loops := true, plainKeys := false, apart := false, narrowed := true }
def DfaOversUptoSaid : Prop := dfaOversUptoRow.holds Tryz.pinned (OpenSpec.upto dfaOversSpec)

end Rows
end Go.Proofs.YtfbglkkidenifaaGreat
