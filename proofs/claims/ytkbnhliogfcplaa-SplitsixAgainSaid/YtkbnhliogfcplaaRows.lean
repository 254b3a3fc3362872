/-
  No cell of these rows narrows 'for every input' (looked for: loops, veiled, ifaces, maps, wideKeys, modest, calm, conditions, laid).
  DERIVED. THE GIVEN ROWS OF THIS SEAT. 5 by the template 'for every input the law returns true; each argument reads behind the call as it read before'; 0 by the template 'total and deterministic' (their statements: YtkbnhliogfcplaaTotals.lean).
  GIVEN WITH THE SEED: the statements are not yours to turn. If you find one false, say at which input.
  Laid BY PROGRAM, IN A SANDBOX (cutbox-rows.mjs): the forced cells as the released guide's own fill.sh prints them over the translation 2db084cd680c327c… (all of the seat's roots in one cut). By AI agents, Wed Nov 11 2026. No macro, syntax, notation, axiom, sorry.
-/
import Derived.Test.YtkbnhliogfcplaaChecked
import GoSem.Claim
import GoSem.ClaimJoined
import GoSem.ClaimMapViews
import Derived.JoinedTies
import Derived.KernelRfl
namespace Go.Proofs.Ytkbnhliogfcplaa
/- THE CELL 'sum', in the pinned program and in every row, IS THE sha256 OF THE DUMP (.gsa) THAT YtkbnhliogfcplaaProg.lean LOADS. Nothing in Lean hashes anything: it is a label: what it is worth is what the hold of that sum in a sandbox is worth. -/
noncomputable def Try.pinned : Pinned := { name := "ytkbnhliogfcplaa", sum := "2db084cd680c327c87948844f8f0fb2b92a80810826265905aeea7d22956ecdf", checked := Try.checked }
namespace Rows
def none {H : Type} : Left H := { results := [], args := [] }

/-- 'ferrymanlaw14.SplitsixAll': WHATEVER THE INPUT: true; the input reads as it did. -/
def splitsixAllSpec : ChangeSpec := { name := "splitsixAll", fn := fun _ => fun
  | [d1, d2, d3] => { results := [.lit (.bool true)], args := [d1, d2, d3] }
  | _ => none }
def splitsixAllRow : OpenClaim := { program := "ytkbnhliogfcplaa", sum := "2db084cd680c327c87948844f8f0fb2b92a80810826265905aeea7d22956ecdf", func := "ferryman/ferrymanlaw14.SplitsixAll", spec := "splitsixAll", unfollowed := true, recurses := true, apart := false }
def SplitsixAllSaid : Prop := splitsixAllRow.holds Try.pinned (OpenSpec.ofChange splitsixAllSpec)

/-- ITS FALSE NEIGHBOUR: 'it returns false'. Refute it at one input. -/
def splitsixAllWrong : ChangeSpec := { name := "splitsixAll", fn := fun _ => fun
  | [d1, d2, d3] => { results := [.lit (.bool false)], args := [d1, d2, d3] }
  | _ => none }
def SplitsixAllWrongFalsely : Prop := splitsixAllRow.holds Try.pinned (OpenSpec.ofChange splitsixAllWrong)

/-- 'ferrymanlaw14.SplitsixFew': WHATEVER THE INPUT: true; the input reads as it did. -/
def splitsixFewSpec : ChangeSpec := { name := "splitsixFew", fn := fun _ => fun
  | [d1, d2, d3] => { results := [.lit (.bool true)], args := [d1, d2, d3] }
  | _ => none }
def splitsixFewRow : OpenClaim := { program := "ytkbnhliogfcplaa", sum := "2db084cd680c327c87948844f8f0fb2b92a80810826265905aeea7d22956ecdf", func := "ferryman/ferrymanlaw14.SplitsixFew", spec := "splitsixFew", unfollowed := true, recurses := true, apart := false }
def SplitsixFewSaid : Prop := splitsixFewRow.holds Try.pinned (OpenSpec.ofChange splitsixFewSpec)

/-- ITS FALSE NEIGHBOUR: 'it returns false'. Refute it at one input. -/
def splitsixFewWrong : ChangeSpec := { name := "splitsixFew", fn := fun _ => fun
  | [d1, d2, d3] => { results := [.lit (.bool false)], args := [d1, d2, d3] }
  | _ => none }
def SplitsixFewWrongFalsely : Prop := splitsixFewRow.holds Try.pinned (OpenSpec.ofChange splitsixFewWrong)

/-- 'ferrymanlaw14.SplitsixAgain': WHATEVER THE INPUT: true; the input reads as it did. -/
def splitsixAgainSpec : ChangeSpec := { name := "splitsixAgain", fn := fun _ => fun
  | [d1, d2, d3, d4] => { results := [.lit (.bool true)], args := [d1, d2, d3, d4] }
  | _ => none }
def splitsixAgainRow : OpenClaim := { program := "ytkbnhliogfcplaa", sum := "2db084cd680c327c87948844f8f0fb2b92a80810826265905aeea7d22956ecdf", func := "ferryman/ferrymanlaw14.SplitsixAgain", spec := "splitsixAgain", unfollowed := true, recurses := true, apart := false }
def SplitsixAgainSaid : Prop := splitsixAgainRow.holds Try.pinned (OpenSpec.ofChange splitsixAgainSpec)

/-- ITS FALSE NEIGHBOUR: 'it returns false'. Refute it at one input. -/
def splitsixAgainWrong : ChangeSpec := { name := "splitsixAgain", fn := fun _ => fun
  | [d1, d2, d3, d4] => { results := [.lit (.bool false)], args := [d1, d2, d3, d4] }
  | _ => none }
def SplitsixAgainWrongFalsely : Prop := splitsixAgainRow.holds Try.pinned (OpenSpec.ofChange splitsixAgainWrong)

/-- 'ferrymanlaw14.SplitsixMakes': WHATEVER THE INPUT: true; the input reads as it did. -/
def splitsixMakesSpec : ChangeSpec := { name := "splitsixMakes", fn := fun _ => fun
  | [d1, d2, d3] => { results := [.lit (.bool true)], args := [d1, d2, d3] }
  | _ => none }
def splitsixMakesRow : OpenClaim := { program := "ytkbnhliogfcplaa", sum := "2db084cd680c327c87948844f8f0fb2b92a80810826265905aeea7d22956ecdf", func := "ferryman/ferrymanlaw14.SplitsixMakes", spec := "splitsixMakes", unfollowed := true, recurses := true, apart := false }
def SplitsixMakesSaid : Prop := splitsixMakesRow.holds Try.pinned (OpenSpec.ofChange splitsixMakesSpec)

/-- ITS FALSE NEIGHBOUR: 'it returns false'. Refute it at one input. -/
def splitsixMakesWrong : ChangeSpec := { name := "splitsixMakes", fn := fun _ => fun
  | [d1, d2, d3] => { results := [.lit (.bool false)], args := [d1, d2, d3] }
  | _ => none }
def SplitsixMakesWrongFalsely : Prop := splitsixMakesRow.holds Try.pinned (OpenSpec.ofChange splitsixMakesWrong)

/-- 'ferrymanlaw14.SplitsixHeads': WHATEVER THE INPUT: true; the input reads as it did. -/
def splitsixHeadsSpec : ChangeSpec := { name := "splitsixHeads", fn := fun _ => fun
  | [d1, d2] => { results := [.lit (.bool true)], args := [d1, d2] }
  | _ => none }
def splitsixHeadsRow : OpenClaim := { program := "ytkbnhliogfcplaa", sum := "2db084cd680c327c87948844f8f0fb2b92a80810826265905aeea7d22956ecdf", func := "ferryman/ferrymanlaw14.SplitsixHeads", spec := "splitsixHeads", unfollowed := true, recurses := true, apart := false }
def SplitsixHeadsSaid : Prop := splitsixHeadsRow.holds Try.pinned (OpenSpec.ofChange splitsixHeadsSpec)

/-- ITS FALSE NEIGHBOUR: 'it returns false'. Refute it at one input. -/
def splitsixHeadsWrong : ChangeSpec := { name := "splitsixHeads", fn := fun _ => fun
  | [d1, d2] => { results := [.lit (.bool false)], args := [d1, d2] }
  | _ => none }
def SplitsixHeadsWrongFalsely : Prop := splitsixHeadsRow.holds Try.pinned (OpenSpec.ofChange splitsixHeadsWrong)

/- THE SECOND FORM. 'bulk': how many values and letters a reading holds, each counted each time it is reached (what is shared counts as often as it is met; a slice's spare places count too). A statement '..UptoSaid' is the law's where the arguments, and the package variables that the reading takes, are together of bulk at most 1048576: NARROWER than '..Said'. Prove '..Said' where nothing that the law and all that it calls make is longer than what came in: it says more and counts as full. Else prove '..UptoSaid'. A law counts once. -/
mutual
def uptoBulk {H : Type} : DataW H → Nat
  | .lit (.string bytes) => bytes.length + 1
  | .lit _ => 1
  | .nil => 1
  | .ptr d => uptoBulk d + 1
  | .slice elems spare => uptoBulkAll elems + uptoBulkAll spare + 1
  | .agg parts => uptoBulkAll parts + 1
  | .iface _ d => uptoBulk d + 1
  | .map entries => uptoBulkEntries entries + 1
  | .held _ => 1
def uptoBulkAll {H : Type} : List (DataW H) → Nat
  | [] => 0
  | d :: r => uptoBulk d + uptoBulkAll r
def uptoBulkEntries {H : Type} : List (Lit × DataW H) → Nat
  | [] => 0
  | x :: r => uptoBulkEntry x + uptoBulkEntries r
def uptoBulkEntry {H : Type} : Lit × DataW H → Nat
  | (.string bytes, d) => bytes.length + uptoBulk d + 1
  | (_, d) => uptoBulk d + 1
 end
def uptoSmall : (H : Type) → List (DataW H) → Bool := fun _ ds => decide (uptoBulkAll ds ≤ 1048576)
def OpenSpec.upto (s : _root_.Go.ChangeSpec) : _root_.Go.OpenSpec := { _root_.Go.OpenSpec.ofChange s with cond := some uptoSmall }

/-- 'ferrymanlaw14.SplitsixAll', WHERE WHAT IT READS IS OF BULK AT MOST 1048576: true; the input reads as it did. -/
def splitsixAllUptoRow : OpenClaim := { program := "ytkbnhliogfcplaa", sum := "2db084cd680c327c87948844f8f0fb2b92a80810826265905aeea7d22956ecdf", func := "ferryman/ferrymanlaw14.SplitsixAll", spec := "splitsixAll", unfollowed := true, recurses := true, apart := false, narrowed := true }
def SplitsixAllUptoSaid : Prop := splitsixAllUptoRow.holds Try.pinned (OpenSpec.upto splitsixAllSpec)

/-- 'ferrymanlaw14.SplitsixFew', WHERE WHAT IT READS IS OF BULK AT MOST 1048576: true; the input reads as it did. -/
def splitsixFewUptoRow : OpenClaim := { program := "ytkbnhliogfcplaa", sum := "2db084cd680c327c87948844f8f0fb2b92a80810826265905aeea7d22956ecdf", func := "ferryman/ferrymanlaw14.SplitsixFew", spec := "splitsixFew", unfollowed := true, recurses := true, apart := false, narrowed := true }
def SplitsixFewUptoSaid : Prop := splitsixFewUptoRow.holds Try.pinned (OpenSpec.upto splitsixFewSpec)

/-- 'ferrymanlaw14.SplitsixAgain', WHERE WHAT IT READS IS OF BULK AT MOST 1048576: true; the input reads as it did. -/
def splitsixAgainUptoRow : OpenClaim := { program := "ytkbnhliogfcplaa", sum := "2db084cd680c327c87948844f8f0fb2b92a80810826265905aeea7d22956ecdf", func := "ferryman/ferrymanlaw14.SplitsixAgain", spec := "splitsixAgain", unfollowed := true, recurses := true, apart := false, narrowed := true }
def SplitsixAgainUptoSaid : Prop := splitsixAgainUptoRow.holds Try.pinned (OpenSpec.upto splitsixAgainSpec)

/-- 'ferrymanlaw14.SplitsixMakes', WHERE WHAT IT READS IS OF BULK AT MOST 1048576: true; the input reads as it did. -/
def splitsixMakesUptoRow : OpenClaim := { program := "ytkbnhliogfcplaa", sum := "2db084cd680c327c87948844f8f0fb2b92a80810826265905aeea7d22956ecdf", func := "ferryman/ferrymanlaw14.SplitsixMakes", spec := "splitsixMakes", unfollowed := true, recurses := true, apart := false, narrowed := true }
def SplitsixMakesUptoSaid : Prop := splitsixMakesUptoRow.holds Try.pinned (OpenSpec.upto splitsixMakesSpec)

/-- 'ferrymanlaw14.SplitsixHeads', WHERE WHAT IT READS IS OF BULK AT MOST 1048576: true; the input reads as it did. -/
def splitsixHeadsUptoRow : OpenClaim := { program := "ytkbnhliogfcplaa", sum := "2db084cd680c327c87948844f8f0fb2b92a80810826265905aeea7d22956ecdf", func := "ferryman/ferrymanlaw14.SplitsixHeads", spec := "splitsixHeads", unfollowed := true, recurses := true, apart := false, narrowed := true }
def SplitsixHeadsUptoSaid : Prop := splitsixHeadsUptoRow.holds Try.pinned (OpenSpec.upto splitsixHeadsSpec)

end Rows
end Go.Proofs.Ytkbnhliogfcplaa
