/-
  No cell of these rows narrows 'for every input' (looked for: loops, veiled, ifaces, maps, wideKeys, modest, calm, conditions, laid).
  DERIVED. THE GIVEN ROWS OF THIS SEAT. 4 by the template 'for every input the law returns true; each argument reads behind the call as it read before'; 0 by the template 'total and deterministic' (their statements: YtdbkkgabcehknaaTotals.lean).
  GIVEN WITH THE SEED: the statements are not yours to turn. If you find one false, say at which input.
  Laid BY PROGRAM, IN A SANDBOX (cutbox-rows.mjs): the forced cells as the released guide's own fill.sh prints them over the translation 4c328f1de1bf4bfc… (all of the seat's roots in one cut). By AI agents, Wed Nov 11 2026. No macro, syntax, notation, axiom, sorry.
-/
import Derived.Test.YtdbkkgabcehknaaChecked
import GoSem.Claim
import GoSem.ClaimJoined
import GoSem.ClaimMapViews
import Derived.JoinedTies
import Derived.KernelRfl
namespace Go.Proofs.Ytdbkkgabcehknaa
/- THE CELL 'sum', in the pinned program and in every row, IS THE sha256 OF THE DUMP (.gsa) THAT YtdbkkgabcehknaaProg.lean LOADS. Nothing in Lean hashes anything: it is a label: what it is worth is what the hold of that sum in a sandbox is worth. -/
noncomputable def Try.pinned : Pinned := { name := "ytdbkkgabcehknaa", sum := "4c328f1de1bf4bfc910495f33200b093be8d50a0efbf8ad1d2a38efa43434755", checked := Try.checked }
namespace Rows
def none {H : Type} : Left H := { results := [], args := [] }

/-- 'ferrymanlaw21.PlatOwn': WHATEVER THE INPUT: true; the input reads as it did. -/
def platOwnSpec : ChangeSpec := { name := "platOwn", fn := fun _ => fun
  | [d1, d2] => { results := [.lit (.bool true)], args := [d1, d2] }
  | _ => none }
def platOwnRow : OpenClaim := { program := "ytdbkkgabcehknaa", sum := "4c328f1de1bf4bfc910495f33200b093be8d50a0efbf8ad1d2a38efa43434755", func := "ferryman/ferrymanlaw21.PlatOwn", spec := "platOwn", unfollowed := true, recurses := true, plainKeys := false, apart := false }
def PlatOwnSaid : Prop := platOwnRow.holds Try.pinned (OpenSpec.ofChange platOwnSpec)

/-- ITS FALSE NEIGHBOUR: 'it returns false'. Refute it at one input. -/
def platOwnWrong : ChangeSpec := { name := "platOwn", fn := fun _ => fun
  | [d1, d2] => { results := [.lit (.bool false)], args := [d1, d2] }
  | _ => none }
def PlatOwnWrongFalsely : Prop := platOwnRow.holds Try.pinned (OpenSpec.ofChange platOwnWrong)

/-- 'ferrymanlaw21.PlatOnce': WHATEVER THE INPUT: true; the input reads as it did. -/
def platOnceSpec : ChangeSpec := { name := "platOnce", fn := fun _ => fun
  | [d1, d2] => { results := [.lit (.bool true)], args := [d1, d2] }
  | _ => none }
def platOnceRow : OpenClaim := { program := "ytdbkkgabcehknaa", sum := "4c328f1de1bf4bfc910495f33200b093be8d50a0efbf8ad1d2a38efa43434755", func := "ferryman/ferrymanlaw21.PlatOnce", spec := "platOnce", unfollowed := true, recurses := true, plainKeys := false, apart := false }
def PlatOnceSaid : Prop := platOnceRow.holds Try.pinned (OpenSpec.ofChange platOnceSpec)

/-- ITS FALSE NEIGHBOUR: 'it returns false'. Refute it at one input. -/
def platOnceWrong : ChangeSpec := { name := "platOnce", fn := fun _ => fun
  | [d1, d2] => { results := [.lit (.bool false)], args := [d1, d2] }
  | _ => none }
def PlatOnceWrongFalsely : Prop := platOnceRow.holds Try.pinned (OpenSpec.ofChange platOnceWrong)

/-- 'ferrymanlaw21.PlatStays': WHATEVER THE INPUT: true; the input reads as it did. -/
def platStaysSpec : ChangeSpec := { name := "platStays", fn := fun _ => fun
  | [d1, d2] => { results := [.lit (.bool true)], args := [d1, d2] }
  | _ => none }
def platStaysRow : OpenClaim := { program := "ytdbkkgabcehknaa", sum := "4c328f1de1bf4bfc910495f33200b093be8d50a0efbf8ad1d2a38efa43434755", func := "ferryman/ferrymanlaw21.PlatStays", spec := "platStays", unfollowed := true, recurses := true, plainKeys := false, apart := false }
def PlatStaysSaid : Prop := platStaysRow.holds Try.pinned (OpenSpec.ofChange platStaysSpec)

/-- ITS FALSE NEIGHBOUR: 'it returns false'. Refute it at one input. -/
def platStaysWrong : ChangeSpec := { name := "platStays", fn := fun _ => fun
  | [d1, d2] => { results := [.lit (.bool false)], args := [d1, d2] }
  | _ => none }
def PlatStaysWrongFalsely : Prop := platStaysRow.holds Try.pinned (OpenSpec.ofChange platStaysWrong)

/-- 'ferrymanlaw21.PlatNobody': WHATEVER THE INPUT: true; the input reads as it did. -/
def platNobodySpec : ChangeSpec := { name := "platNobody", fn := fun _ => fun
  | [d1, d2, d3] => { results := [.lit (.bool true)], args := [d1, d2, d3] }
  | _ => none }
def platNobodyRow : OpenClaim := { program := "ytdbkkgabcehknaa", sum := "4c328f1de1bf4bfc910495f33200b093be8d50a0efbf8ad1d2a38efa43434755", func := "ferryman/ferrymanlaw21.PlatNobody", spec := "platNobody", unfollowed := true, recurses := true, plainKeys := false, apart := false }
def PlatNobodySaid : Prop := platNobodyRow.holds Try.pinned (OpenSpec.ofChange platNobodySpec)

/-- ITS FALSE NEIGHBOUR: 'it returns false'. Refute it at one input. -/
def platNobodyWrong : ChangeSpec := { name := "platNobody", fn := fun _ => fun
  | [d1, d2, d3] => { results := [.lit (.bool false)], args := [d1, d2, d3] }
  | _ => none }
def PlatNobodyWrongFalsely : Prop := platNobodyRow.holds Try.pinned (OpenSpec.ofChange platNobodyWrong)

/- THE SECOND FORM. 'bulk': how many values and letters a reading holds, each counted each time it is reached (what is shared counts as often as it is met; a slice's spare places count too). A statement '..UptoSaid' is the law's where the arguments, and the package variables that the reading takes, are together of bulk at most 1048576: NARROWER than '..Said'. Prove '..Said' where nothing that the law and all that it calls make is longer than what came in: it says more and counts as full. Else prove '..UptoSaid'. A law counts once. -/
mutual
def uptoBulk {H : Type} : DataW H → Nat
  | .lit (.string bytes) => bytes.length + 1
  | .lit _ => 1
  | .nil => 1
  | .ptr d => uptoBulk d + 1
  | .slice elems spare => uptoBulkAll elems + uptoBulkAll spare + 1
  | .agg parts => uptoBulkAll parts + 1
  | .iface _ d => uptoBulk d + 1
  | .map entries => uptoBulkEntries entries + 1
  | .held _ => 1
def uptoBulkAll {H : Type} : List (DataW H) → Nat
  | [] => 0
  | d :: r => uptoBulk d + uptoBulkAll r
def uptoBulkEntries {H : Type} : List (Lit × DataW H) → Nat
  | [] => 0
  | x :: r => uptoBulkEntry x + uptoBulkEntries r
def uptoBulkEntry {H : Type} : Lit × DataW H → Nat
  | (.string bytes, d) => bytes.length + uptoBulk d + 1
  | (_, d) => uptoBulk d + 1
 end
def uptoSmall : (H : Type) → List (DataW H) → Bool := fun _ ds => decide (uptoBulkAll ds ≤ 1048576)
def OpenSpec.upto (s : _root_.Go.ChangeSpec) : _root_.Go.OpenSpec := { _root_.Go.OpenSpec.ofChange s with cond := some uptoSmall }

/-- 'ferrymanlaw21.PlatOwn', WHERE WHAT IT READS IS OF BULK AT MOST 1048576: true; the input reads as it did. -/
def platOwnUptoRow : OpenClaim := { program := "ytdbkkgabcehknaa", sum := "4c328f1de1bf4bfc910495f33200b093be8d50a0efbf8ad1d2a38efa43434755", func := "ferryman/ferrymanlaw21.PlatOwn", spec := "platOwn", unfollowed := true, recurses := true, plainKeys := false, apart := false, narrowed := true }
def PlatOwnUptoSaid : Prop := platOwnUptoRow.holds Try.pinned (OpenSpec.upto platOwnSpec)

/-- 'ferrymanlaw21.PlatOnce', WHERE WHAT IT READS IS OF BULK AT MOST 1048576: true; the input reads as it did. -/
def platOnceUptoRow : OpenClaim := { program := "ytdbkkgabcehknaa", sum := "4c328f1de1bf4bfc910495f33200b093be8d50a0efbf8ad1d2a38efa43434755", func := "ferryman/ferrymanlaw21.PlatOnce", spec := "platOnce", unfollowed := true, recurses := true, plainKeys := false, apart := false, narrowed := true }
def PlatOnceUptoSaid : Prop := platOnceUptoRow.holds Try.pinned (OpenSpec.upto platOnceSpec)

/-- 'ferrymanlaw21.PlatStays', WHERE WHAT IT READS IS OF BULK AT MOST 1048576: true; the input reads as it did. -/
def platStaysUptoRow : OpenClaim := { program := "ytdbkkgabcehknaa", sum := "4c328f1de1bf4bfc910495f33200b093be8d50a0efbf8ad1d2a38efa43434755", func := "ferryman/ferrymanlaw21.PlatStays", spec := "platStays", unfollowed := true, recurses := true, plainKeys := false, apart := false, narrowed := true }
def PlatStaysUptoSaid : Prop := platStaysUptoRow.holds Try.pinned (OpenSpec.upto platStaysSpec)

/-- 'ferrymanlaw21.PlatNobody', WHERE WHAT IT READS IS OF BULK AT MOST 1048576: true; the input reads as it did. -/
def platNobodyUptoRow : OpenClaim := { program := "ytdbkkgabcehknaa", sum := "4c328f1de1bf4bfc910495f33200b093be8d50a0efbf8ad1d2a38efa43434755", func := "ferryman/ferrymanlaw21.PlatNobody", spec := "platNobody", unfollowed := true, recurses := true, plainKeys := false, apart := false, narrowed := true }
def PlatNobodyUptoSaid : Prop := platNobodyUptoRow.holds Try.pinned (OpenSpec.upto platNobodySpec)

end Rows
end Go.Proofs.Ytdbkkgabcehknaa
