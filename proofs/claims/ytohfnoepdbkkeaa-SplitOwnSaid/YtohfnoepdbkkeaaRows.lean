/-
  No cell of these rows narrows 'for every input' (looked for: loops, veiled, ifaces, maps, wideKeys, modest, calm, conditions, laid).
  DERIVED. THE GIVEN ROWS OF THIS SEAT. 10 by the template 'for every input the law returns true; each argument reads behind the call as it read before'; 0 by the template 'total and deterministic' (their statements: YtohfnoepdbkkeaaTotals.lean).
  GIVEN WITH THE SEED: the statements are not yours to turn. If you find one false, say at which input.
  Laid BY PROGRAM, IN A SANDBOX (cutbox-rows.mjs): the forced cells as the released guide's own fill.sh prints them over the translation 1ac808f8f3fd964a… (all of the seat's roots in one cut). By AI agents, Wed Nov 11 2026. No macro, syntax, notation, axiom, sorry.
-/
import Derived.Test.YtohfnoepdbkkeaaChecked
import GoSem.Claim
import GoSem.ClaimJoined
import GoSem.ClaimMapViews
import Derived.JoinedTies
import Derived.KernelRfl
namespace Go.Proofs.Ytohfnoepdbkkeaa
/- THE CELL 'sum', in the pinned program and in every row, IS THE sha256 OF THE DUMP (.gsa) THAT YtohfnoepdbkkeaaProg.lean LOADS. Nothing in Lean hashes anything: it is a label: what it is worth is what the hold of that sum in a sandbox is worth. -/
noncomputable def Try.pinned : Pinned := { name := "ytohfnoepdbkkeaa", sum := "1ac808f8f3fd964ab5d5ae5241f981b412154aaca14482eead10c36a0603d9b3", checked := Try.checked }
namespace Rows
def none {H : Type} : Left H := { results := [], args := [] }

/-- 'ferrymanlaw13.SplitCopied': WHATEVER THE INPUT: true; the input reads as it did. -/
def splitCopiedSpec : ChangeSpec := { name := "splitCopied", fn := fun _ => fun
  | [d] => { results := [.lit (.bool true)], args := [d] }
  | _ => none }
def splitCopiedRow : OpenClaim := { program := "ytohfnoepdbkkeaa", sum := "1ac808f8f3fd964ab5d5ae5241f981b412154aaca14482eead10c36a0603d9b3", func := "ferryman/ferrymanlaw13.SplitCopied", spec := "splitCopied", unfollowed := true, recurses := true, apart := false }
def SplitCopiedSaid : Prop := splitCopiedRow.holds Try.pinned (OpenSpec.ofChange splitCopiedSpec)

/-- ITS FALSE NEIGHBOUR: 'it returns false'. Refute it at one input. -/
def splitCopiedWrong : ChangeSpec := { name := "splitCopied", fn := fun _ => fun
  | [d] => { results := [.lit (.bool false)], args := [d] }
  | _ => none }
def SplitCopiedWrongFalsely : Prop := splitCopiedRow.holds Try.pinned (OpenSpec.ofChange splitCopiedWrong)

/-- 'ferrymanlaw13.SplitAll': WHATEVER THE INPUT: true; the input reads as it did. -/
def splitAllSpec : ChangeSpec := { name := "splitAll", fn := fun _ => fun
  | [d1, d2] => { results := [.lit (.bool true)], args := [d1, d2] }
  | _ => none }
def splitAllRow : OpenClaim := { program := "ytohfnoepdbkkeaa", sum := "1ac808f8f3fd964ab5d5ae5241f981b412154aaca14482eead10c36a0603d9b3", func := "ferryman/ferrymanlaw13.SplitAll", spec := "splitAll", unfollowed := true, recurses := true, apart := false }
def SplitAllSaid : Prop := splitAllRow.holds Try.pinned (OpenSpec.ofChange splitAllSpec)

/-- ITS FALSE NEIGHBOUR: 'it returns false'. Refute it at one input. -/
def splitAllWrong : ChangeSpec := { name := "splitAll", fn := fun _ => fun
  | [d1, d2] => { results := [.lit (.bool false)], args := [d1, d2] }
  | _ => none }
def SplitAllWrongFalsely : Prop := splitAllRow.holds Try.pinned (OpenSpec.ofChange splitAllWrong)

/-- 'ferrymanlaw13.SplitAgain': WHATEVER THE INPUT: true; the input reads as it did. -/
def splitAgainSpec : ChangeSpec := { name := "splitAgain", fn := fun _ => fun
  | [d1, d2, d3] => { results := [.lit (.bool true)], args := [d1, d2, d3] }
  | _ => none }
def splitAgainRow : OpenClaim := { program := "ytohfnoepdbkkeaa", sum := "1ac808f8f3fd964ab5d5ae5241f981b412154aaca14482eead10c36a0603d9b3", func := "ferryman/ferrymanlaw13.SplitAgain", spec := "splitAgain", unfollowed := true, recurses := true, apart := false }
def SplitAgainSaid : Prop := splitAgainRow.holds Try.pinned (OpenSpec.ofChange splitAgainSpec)

/-- ITS FALSE NEIGHBOUR: 'it returns false'. Refute it at one input. -/
def splitAgainWrong : ChangeSpec := { name := "splitAgain", fn := fun _ => fun
  | [d1, d2, d3] => { results := [.lit (.bool false)], args := [d1, d2, d3] }
  | _ => none }
def SplitAgainWrongFalsely : Prop := splitAgainRow.holds Try.pinned (OpenSpec.ofChange splitAgainWrong)

/-- 'ferrymanlaw13.SplitOwn': WHATEVER THE INPUT: true; the input reads as it did. -/
def splitOwnSpec : ChangeSpec := { name := "splitOwn", fn := fun _ => fun
  | [d1, d2] => { results := [.lit (.bool true)], args := [d1, d2] }
  | _ => none }
def splitOwnRow : OpenClaim := { program := "ytohfnoepdbkkeaa", sum := "1ac808f8f3fd964ab5d5ae5241f981b412154aaca14482eead10c36a0603d9b3", func := "ferryman/ferrymanlaw13.SplitOwn", spec := "splitOwn", unfollowed := true, recurses := true, apart := false }
def SplitOwnSaid : Prop := splitOwnRow.holds Try.pinned (OpenSpec.ofChange splitOwnSpec)

/-- ITS FALSE NEIGHBOUR: 'it returns false'. Refute it at one input. -/
def splitOwnWrong : ChangeSpec := { name := "splitOwn", fn := fun _ => fun
  | [d1, d2] => { results := [.lit (.bool false)], args := [d1, d2] }
  | _ => none }
def SplitOwnWrongFalsely : Prop := splitOwnRow.holds Try.pinned (OpenSpec.ofChange splitOwnWrong)

/-- 'ferrymanlaw13.SplitSplits': WHATEVER THE INPUT: true; the input reads as it did. -/
def splitSplitsSpec : ChangeSpec := { name := "splitSplits", fn := fun _ => fun
  | [d1, d2] => { results := [.lit (.bool true)], args := [d1, d2] }
  | _ => none }
def splitSplitsRow : OpenClaim := { program := "ytohfnoepdbkkeaa", sum := "1ac808f8f3fd964ab5d5ae5241f981b412154aaca14482eead10c36a0603d9b3", func := "ferryman/ferrymanlaw13.SplitSplits", spec := "splitSplits", unfollowed := true, recurses := true, apart := false }
def SplitSplitsSaid : Prop := splitSplitsRow.holds Try.pinned (OpenSpec.ofChange splitSplitsSpec)

/-- ITS FALSE NEIGHBOUR: 'it returns false'. Refute it at one input. -/
def splitSplitsWrong : ChangeSpec := { name := "splitSplits", fn := fun _ => fun
  | [d1, d2] => { results := [.lit (.bool false)], args := [d1, d2] }
  | _ => none }
def SplitSplitsWrongFalsely : Prop := splitSplitsRow.holds Try.pinned (OpenSpec.ofChange splitSplitsWrong)

/-- 'ferrymanlaw19.FlowSteps': WHATEVER THE INPUT: true; the input reads as it did. -/
def flowStepsSpec : ChangeSpec := { name := "flowSteps", fn := fun _ => fun
  | [d1, d2, d3, d4] => { results := [.lit (.bool true)], args := [d1, d2, d3, d4] }
  | _ => none }
def flowStepsRow : OpenClaim := { program := "ytohfnoepdbkkeaa", sum := "1ac808f8f3fd964ab5d5ae5241f981b412154aaca14482eead10c36a0603d9b3", func := "ferryman/ferrymanlaw19.FlowSteps", spec := "flowSteps", apart := false }
def FlowStepsSaid : Prop := flowStepsRow.holds Try.pinned (OpenSpec.ofChange flowStepsSpec)

/-- ITS FALSE NEIGHBOUR: 'it returns false'. Refute it at one input. -/
def flowStepsWrong : ChangeSpec := { name := "flowSteps", fn := fun _ => fun
  | [d1, d2, d3, d4] => { results := [.lit (.bool false)], args := [d1, d2, d3, d4] }
  | _ => none }
def FlowStepsWrongFalsely : Prop := flowStepsRow.holds Try.pinned (OpenSpec.ofChange flowStepsWrong)

/-- 'ferrymanlaw19.FlowLives': WHATEVER THE INPUT: true; the input reads as it did. -/
def flowLivesSpec : ChangeSpec := { name := "flowLives", fn := fun _ => fun
  | [d1, d2] => { results := [.lit (.bool true)], args := [d1, d2] }
  | _ => none }
def flowLivesRow : OpenClaim := { program := "ytohfnoepdbkkeaa", sum := "1ac808f8f3fd964ab5d5ae5241f981b412154aaca14482eead10c36a0603d9b3", func := "ferryman/ferrymanlaw19.FlowLives", spec := "flowLives", apart := false }
def FlowLivesSaid : Prop := flowLivesRow.holds Try.pinned (OpenSpec.ofChange flowLivesSpec)

/-- ITS FALSE NEIGHBOUR: 'it returns false'. Refute it at one input. -/
def flowLivesWrong : ChangeSpec := { name := "flowLives", fn := fun _ => fun
  | [d1, d2] => { results := [.lit (.bool false)], args := [d1, d2] }
  | _ => none }
def FlowLivesWrongFalsely : Prop := flowLivesRow.holds Try.pinned (OpenSpec.ofChange flowLivesWrong)

/-- 'ferrymanlaw19.FlowRuns': WHATEVER THE INPUT: true; the input reads as it did. -/
def flowRunsSpec : ChangeSpec := { name := "flowRuns", fn := fun _ => fun
  | [d1, d2, d3] => { results := [.lit (.bool true)], args := [d1, d2, d3] }
  | _ => none }
def flowRunsRow : OpenClaim := { program := "ytohfnoepdbkkeaa", sum := "1ac808f8f3fd964ab5d5ae5241f981b412154aaca14482eead10c36a0603d9b3", func := "ferryman/ferrymanlaw19.FlowRuns", spec := "flowRuns", apart := false }
def FlowRunsSaid : Prop := flowRunsRow.holds Try.pinned (OpenSpec.ofChange flowRunsSpec)

/-- ITS FALSE NEIGHBOUR: 'it returns false'. Refute it at one input. -/
def flowRunsWrong : ChangeSpec := { name := "flowRuns", fn := fun _ => fun
  | [d1, d2, d3] => { results := [.lit (.bool false)], args := [d1, d2, d3] }
  | _ => none }
def FlowRunsWrongFalsely : Prop := flowRunsRow.holds Try.pinned (OpenSpec.ofChange flowRunsWrong)

/-- 'ferrymanlaw19.FlowEnds': WHATEVER THE INPUT: true; the input reads as it did. -/
def flowEndsSpec : ChangeSpec := { name := "flowEnds", fn := fun _ => fun
  | [d1, d2, d3] => { results := [.lit (.bool true)], args := [d1, d2, d3] }
  | _ => none }
def flowEndsRow : OpenClaim := { program := "ytohfnoepdbkkeaa", sum := "1ac808f8f3fd964ab5d5ae5241f981b412154aaca14482eead10c36a0603d9b3", func := "ferryman/ferrymanlaw19.FlowEnds", spec := "flowEnds", apart := false }
def FlowEndsSaid : Prop := flowEndsRow.holds Try.pinned (OpenSpec.ofChange flowEndsSpec)

/-- ITS FALSE NEIGHBOUR: 'it returns false'. Refute it at one input. -/
def flowEndsWrong : ChangeSpec := { name := "flowEnds", fn := fun _ => fun
  | [d1, d2, d3] => { results := [.lit (.bool false)], args := [d1, d2, d3] }
  | _ => none }
def FlowEndsWrongFalsely : Prop := flowEndsRow.holds Try.pinned (OpenSpec.ofChange flowEndsWrong)

/-- 'ferrymanlaw19.FlowBoths': WHATEVER THE INPUT: true; the input reads as it did. -/
def flowBothsSpec : ChangeSpec := { name := "flowBoths", fn := fun _ => fun
  | [d1, d2, d3] => { results := [.lit (.bool true)], args := [d1, d2, d3] }
  | _ => none }
def flowBothsRow : OpenClaim := { program := "ytohfnoepdbkkeaa", sum := "1ac808f8f3fd964ab5d5ae5241f981b412154aaca14482eead10c36a0603d9b3", func := "ferryman/ferrymanlaw19.FlowBoths", spec := "flowBoths", apart := false }
def FlowBothsSaid : Prop := flowBothsRow.holds Try.pinned (OpenSpec.ofChange flowBothsSpec)

/-- ITS FALSE NEIGHBOUR: 'it returns false'. Refute it at one input. -/
def flowBothsWrong : ChangeSpec := { name := "flowBoths", fn := fun _ => fun
  | [d1, d2, d3] => { results := [.lit (.bool false)], args := [d1, d2, d3] }
  | _ => none }
def FlowBothsWrongFalsely : Prop := flowBothsRow.holds Try.pinned (OpenSpec.ofChange flowBothsWrong)

/- THE SECOND FORM. 'bulk': how many values and letters a reading holds, each counted each time it is reached (what is shared counts as often as it is met; a slice's spare places count too). A statement '..UptoSaid' is the law's where the arguments, and the package variables that the reading takes, are together of bulk at most 1048576: NARROWER than '..Said'. Prove '..Said' where nothing that the law and all that it calls make is longer than what came in: it says more and counts as full. Else prove '..UptoSaid'. A law counts once. -/
mutual
def uptoBulk {H : Type} : DataW H → Nat
  | .lit (.string bytes) => bytes.length + 1
  | .lit _ => 1
  | .nil => 1
  | .ptr d => uptoBulk d + 1
  | .slice elems spare => uptoBulkAll elems + uptoBulkAll spare + 1
  | .agg parts => uptoBulkAll parts + 1
  | .iface _ d => uptoBulk d + 1
  | .map entries => uptoBulkEntries entries + 1
  | .held _ => 1
def uptoBulkAll {H : Type} : List (DataW H) → Nat
  | [] => 0
  | d :: r => uptoBulk d + uptoBulkAll r
def uptoBulkEntries {H : Type} : List (Lit × DataW H) → Nat
  | [] => 0
  | x :: r => uptoBulkEntry x + uptoBulkEntries r
def uptoBulkEntry {H : Type} : Lit × DataW H → Nat
  | (.string bytes, d) => bytes.length + uptoBulk d + 1
  | (_, d) => uptoBulk d + 1
 end
def uptoSmall : (H : Type) → List (DataW H) → Bool := fun _ ds => decide (uptoBulkAll ds ≤ 1048576)
def OpenSpec.upto (s : _root_.Go.ChangeSpec) : _root_.Go.OpenSpec := { _root_.Go.OpenSpec.ofChange s with cond := some uptoSmall }

/-- 'ferrymanlaw13.SplitCopied', WHERE WHAT IT READS IS OF BULK AT MOST 1048576: true; the input reads as it did. -/
def splitCopiedUptoRow : OpenClaim := { program := "ytohfnoepdbkkeaa", sum := "1ac808f8f3fd964ab5d5ae5241f981b412154aaca14482eead10c36a0603d9b3", func := "ferryman/ferrymanlaw13.SplitCopied", spec := "splitCopied", unfollowed := true, recurses := true, apart := false, narrowed := true }
def SplitCopiedUptoSaid : Prop := splitCopiedUptoRow.holds Try.pinned (OpenSpec.upto splitCopiedSpec)

/-- 'ferrymanlaw13.SplitAll', WHERE WHAT IT READS IS OF BULK AT MOST 1048576: true; the input reads as it did. -/
def splitAllUptoRow : OpenClaim := { program := "ytohfnoepdbkkeaa", sum := "1ac808f8f3fd964ab5d5ae5241f981b412154aaca14482eead10c36a0603d9b3", func := "ferryman/ferrymanlaw13.SplitAll", spec := "splitAll", unfollowed := true, recurses := true, apart := false, narrowed := true }
def SplitAllUptoSaid : Prop := splitAllUptoRow.holds Try.pinned (OpenSpec.upto splitAllSpec)

/-- 'ferrymanlaw13.SplitAgain', WHERE WHAT IT READS IS OF BULK AT MOST 1048576: true; the input reads as it did. -/
def splitAgainUptoRow : OpenClaim := { program := "ytohfnoepdbkkeaa", sum := "1ac808f8f3fd964ab5d5ae5241f981b412154aaca14482eead10c36a0603d9b3", func := "ferryman/ferrymanlaw13.SplitAgain", spec := "splitAgain", unfollowed := true, recurses := true, apart := false, narrowed := true }
def SplitAgainUptoSaid : Prop := splitAgainUptoRow.holds Try.pinned (OpenSpec.upto splitAgainSpec)

/-- 'ferrymanlaw13.SplitOwn', WHERE WHAT IT READS IS OF BULK AT MOST 1048576: true; the input reads as it did. -/
def splitOwnUptoRow : OpenClaim := { program := "ytohfnoepdbkkeaa", sum := "1ac808f8f3fd964ab5d5ae5241f981b412154aaca14482eead10c36a0603d9b3", func := "ferryman/ferrymanlaw13.SplitOwn", spec := "splitOwn", unfollowed := true, recurses := true, apart := false, narrowed := true }
def SplitOwnUptoSaid : Prop := splitOwnUptoRow.holds Try.pinned (OpenSpec.upto splitOwnSpec)

/-- 'ferrymanlaw13.SplitSplits', WHERE WHAT IT READS IS OF BULK AT MOST 1048576: true; the input reads as it did. -/
def splitSplitsUptoRow : OpenClaim := { program := "ytohfnoepdbkkeaa", sum := "1ac808f8f3fd964ab5d5ae5241f981b412154aaca14482eead10c36a0603d9b3", func := "ferryman/ferrymanlaw13.SplitSplits", spec := "splitSplits", unfollowed := true, recurses := true, apart := false, narrowed := true }
def SplitSplitsUptoSaid : Prop := splitSplitsUptoRow.holds Try.pinned (OpenSpec.upto splitSplitsSpec)

/-- 'ferrymanlaw19.FlowSteps', WHERE WHAT IT READS IS OF BULK AT MOST 1048576: true; the input reads as it did. -/
def flowStepsUptoRow : OpenClaim := { program := "ytohfnoepdbkkeaa", sum := "1ac808f8f3fd964ab5d5ae5241f981b412154aaca14482eead10c36a0603d9b3", func := "ferryman/ferrymanlaw19.FlowSteps", spec := "flowSteps", apart := false, narrowed := true }
def FlowStepsUptoSaid : Prop := flowStepsUptoRow.holds Try.pinned (OpenSpec.upto flowStepsSpec)

/-- 'ferrymanlaw19.FlowLives', WHERE WHAT IT READS IS OF BULK AT MOST 1048576: true; the input reads as it did. -/
def flowLivesUptoRow : OpenClaim := { program := "ytohfnoepdbkkeaa", sum := "1ac808f8f3fd964ab5d5ae5241f981b412154aaca14482eead10c36a0603d9b3", func := "ferryman/ferrymanlaw19.FlowLives", spec := "flowLives", apart := false, narrowed := true }
def FlowLivesUptoSaid : Prop := flowLivesUptoRow.holds Try.pinned (OpenSpec.upto flowLivesSpec)

/-- 'ferrymanlaw19.FlowRuns', WHERE WHAT IT READS IS OF BULK AT MOST 1048576: true; the input reads as it did. -/
def flowRunsUptoRow : OpenClaim := { program := "ytohfnoepdbkkeaa", sum := "1ac808f8f3fd964ab5d5ae5241f981b412154aaca14482eead10c36a0603d9b3", func := "ferryman/ferrymanlaw19.FlowRuns", spec := "flowRuns", apart := false, narrowed := true }
def FlowRunsUptoSaid : Prop := flowRunsUptoRow.holds Try.pinned (OpenSpec.upto flowRunsSpec)

/-- 'ferrymanlaw19.FlowEnds', WHERE WHAT IT READS IS OF BULK AT MOST 1048576: true; the input reads as it did. -/
def flowEndsUptoRow : OpenClaim := { program := "ytohfnoepdbkkeaa", sum := "1ac808f8f3fd964ab5d5ae5241f981b412154aaca14482eead10c36a0603d9b3", func := "ferryman/ferrymanlaw19.FlowEnds", spec := "flowEnds", apart := false, narrowed := true }
def FlowEndsUptoSaid : Prop := flowEndsUptoRow.holds Try.pinned (OpenSpec.upto flowEndsSpec)

/-- 'ferrymanlaw19.FlowBoths', WHERE WHAT IT READS IS OF BULK AT MOST 1048576: true; the input reads as it did. -/
def flowBothsUptoRow : OpenClaim := { program := "ytohfnoepdbkkeaa", sum := "1ac808f8f3fd964ab5d5ae5241f981b412154aaca14482eead10c36a0603d9b3", func := "ferryman/ferrymanlaw19.FlowBoths", spec := "flowBoths", apart := false, narrowed := true }
def FlowBothsUptoSaid : Prop := flowBothsUptoRow.holds Try.pinned (OpenSpec.upto flowBothsSpec)

end Rows
end Go.Proofs.Ytohfnoepdbkkeaa
