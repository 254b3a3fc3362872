/-
  No cell of these rows narrows 'for every input' (looked for: loops, veiled, ifaces, maps, wideKeys, modest, calm, conditions, laid).
  DERIVED. THE GIVEN ROWS OF THIS SEAT. 12 by the template 'for every input the law returns true; each argument reads behind the call as it read before'; 0 by the template 'total and deterministic' (their statements: YtkiipegoooldiaaTotals.lean).
  GIVEN WITH THE SEED: the statements are not yours to turn. If you find one false, say at which input.
  Laid BY PROGRAM, IN A SANDBOX (cutbox-rows.mjs): the forced cells as the released guide's own fill.sh prints them over the translation 1ac4081031f261ea… (all of the seat's roots in one cut). By AI agents, Wed Nov 11 2026. No macro, syntax, notation, axiom, sorry.
-/
import Derived.Test.YtkiipegoooldiaaChecked
import GoSem.Claim
import GoSem.ClaimJoined
import GoSem.ClaimMapViews
import Derived.JoinedTies
import Derived.KernelRfl
namespace Go.Proofs.Ytkiipegoooldiaa
/- THE CELL 'sum', in the pinned program and in every row, IS THE sha256 OF THE DUMP (.gsa) THAT YtkiipegoooldiaaProg.lean LOADS. Nothing in Lean hashes anything: it is a label: what it is worth is what the hold of that sum in a sandbox is worth. -/
noncomputable def Try.pinned : Pinned := { name := "ytkiipegoooldiaa", sum := "1ac4081031f261ea3642bbf59fdb7ea581967eb339fba778d4dbec9513503bb0", checked := Try.checked }
namespace Rows
def none {H : Type} : Left H := { results := [], args := [] }

/-- 'ferrymanlaw03.FieldBack': WHATEVER THE INPUT: true; the input reads as it did. -/
def fieldBackSpec : ChangeSpec := { name := "fieldBack", fn := fun _ => fun
  | [d1, d2, d3, d4, d5] => { results := [.lit (.bool true)], args := [d1, d2, d3, d4, d5] }
  | _ => none }
def fieldBackRow : OpenClaim := { program := "ytkiipegoooldiaa", sum := "1ac4081031f261ea3642bbf59fdb7ea581967eb339fba778d4dbec9513503bb0", func := "ferryman/ferrymanlaw03.FieldBack", spec := "fieldBack", apart := false }
def FieldBackSaid : Prop := fieldBackRow.holds Try.pinned (OpenSpec.ofChange fieldBackSpec)

/-- ITS FALSE NEIGHBOUR: 'it returns false'. Refute it at one input. -/
def fieldBackWrong : ChangeSpec := { name := "fieldBack", fn := fun _ => fun
  | [d1, d2, d3, d4, d5] => { results := [.lit (.bool false)], args := [d1, d2, d3, d4, d5] }
  | _ => none }
def FieldBackWrongFalsely : Prop := fieldBackRow.holds Try.pinned (OpenSpec.ofChange fieldBackWrong)

/-- 'ferrymanlaw03.FieldCats': WHATEVER THE INPUT: true; the input reads as it did. -/
def fieldCatsSpec : ChangeSpec := { name := "fieldCats", fn := fun _ => fun
  | [d] => { results := [.lit (.bool true)], args := [d] }
  | _ => none }
def fieldCatsRow : OpenClaim := { program := "ytkiipegoooldiaa", sum := "1ac4081031f261ea3642bbf59fdb7ea581967eb339fba778d4dbec9513503bb0", func := "ferryman/ferrymanlaw03.FieldCats", spec := "fieldCats", apart := false }
def FieldCatsSaid : Prop := fieldCatsRow.holds Try.pinned (OpenSpec.ofChange fieldCatsSpec)

/-- ITS FALSE NEIGHBOUR: 'it returns false'. Refute it at one input. -/
def fieldCatsWrong : ChangeSpec := { name := "fieldCats", fn := fun _ => fun
  | [d] => { results := [.lit (.bool false)], args := [d] }
  | _ => none }
def FieldCatsWrongFalsely : Prop := fieldCatsRow.holds Try.pinned (OpenSpec.ofChange fieldCatsWrong)

/-- 'ferrymanlaw03.FieldGets': WHATEVER THE INPUT: true; the input reads as it did. -/
def fieldGetsSpec : ChangeSpec := { name := "fieldGets", fn := fun _ => fun
  | [d1, d2, d3, d4] => { results := [.lit (.bool true)], args := [d1, d2, d3, d4] }
  | _ => none }
def fieldGetsRow : OpenClaim := { program := "ytkiipegoooldiaa", sum := "1ac4081031f261ea3642bbf59fdb7ea581967eb339fba778d4dbec9513503bb0", func := "ferryman/ferrymanlaw03.FieldGets", spec := "fieldGets", apart := false }
def FieldGetsSaid : Prop := fieldGetsRow.holds Try.pinned (OpenSpec.ofChange fieldGetsSpec)

/-- ITS FALSE NEIGHBOUR: 'it returns false'. Refute it at one input. -/
def fieldGetsWrong : ChangeSpec := { name := "fieldGets", fn := fun _ => fun
  | [d1, d2, d3, d4] => { results := [.lit (.bool false)], args := [d1, d2, d3, d4] }
  | _ => none }
def FieldGetsWrongFalsely : Prop := fieldGetsRow.holds Try.pinned (OpenSpec.ofChange fieldGetsWrong)

/-- 'ferrymanlaw03.FieldLeads': WHATEVER THE INPUT: true; the input reads as it did. -/
def fieldLeadsSpec : ChangeSpec := { name := "fieldLeads", fn := fun _ => fun
  | [d1, d2, d3] => { results := [.lit (.bool true)], args := [d1, d2, d3] }
  | _ => none }
def fieldLeadsRow : OpenClaim := { program := "ytkiipegoooldiaa", sum := "1ac4081031f261ea3642bbf59fdb7ea581967eb339fba778d4dbec9513503bb0", func := "ferryman/ferrymanlaw03.FieldLeads", spec := "fieldLeads", apart := false }
def FieldLeadsSaid : Prop := fieldLeadsRow.holds Try.pinned (OpenSpec.ofChange fieldLeadsSpec)

/-- ITS FALSE NEIGHBOUR: 'it returns false'. Refute it at one input. -/
def fieldLeadsWrong : ChangeSpec := { name := "fieldLeads", fn := fun _ => fun
  | [d1, d2, d3] => { results := [.lit (.bool false)], args := [d1, d2, d3] }
  | _ => none }
def FieldLeadsWrongFalsely : Prop := fieldLeadsRow.holds Try.pinned (OpenSpec.ofChange fieldLeadsWrong)

/-- 'ferrymanlaw03.FieldRuns': WHATEVER THE INPUT: true; the input reads as it did. -/
def fieldRunsSpec : ChangeSpec := { name := "fieldRuns", fn := fun _ => fun
  | [d] => { results := [.lit (.bool true)], args := [d] }
  | _ => none }
def fieldRunsRow : OpenClaim := { program := "ytkiipegoooldiaa", sum := "1ac4081031f261ea3642bbf59fdb7ea581967eb339fba778d4dbec9513503bb0", func := "ferryman/ferrymanlaw03.FieldRuns", spec := "fieldRuns", apart := false }
def FieldRunsSaid : Prop := fieldRunsRow.holds Try.pinned (OpenSpec.ofChange fieldRunsSpec)

/-- ITS FALSE NEIGHBOUR: 'it returns false'. Refute it at one input. -/
def fieldRunsWrong : ChangeSpec := { name := "fieldRuns", fn := fun _ => fun
  | [d] => { results := [.lit (.bool false)], args := [d] }
  | _ => none }
def FieldRunsWrongFalsely : Prop := fieldRunsRow.holds Try.pinned (OpenSpec.ofChange fieldRunsWrong)

/-- 'ferrymanlaw03.FieldTexts': WHATEVER THE INPUT: true; the input reads as it did. -/
def fieldTextsSpec : ChangeSpec := { name := "fieldTexts", fn := fun _ => fun
  | [d1, d2, d3, d4] => { results := [.lit (.bool true)], args := [d1, d2, d3, d4] }
  | _ => none }
def fieldTextsRow : OpenClaim := { program := "ytkiipegoooldiaa", sum := "1ac4081031f261ea3642bbf59fdb7ea581967eb339fba778d4dbec9513503bb0", func := "ferryman/ferrymanlaw03.FieldTexts", spec := "fieldTexts", apart := false }
def FieldTextsSaid : Prop := fieldTextsRow.holds Try.pinned (OpenSpec.ofChange fieldTextsSpec)

/-- ITS FALSE NEIGHBOUR: 'it returns false'. Refute it at one input. -/
def fieldTextsWrong : ChangeSpec := { name := "fieldTexts", fn := fun _ => fun
  | [d1, d2, d3, d4] => { results := [.lit (.bool false)], args := [d1, d2, d3, d4] }
  | _ => none }
def FieldTextsWrongFalsely : Prop := fieldTextsRow.holds Try.pinned (OpenSpec.ofChange fieldTextsWrong)

/-- 'ferrymanlaw09.PortsetApart': WHATEVER THE INPUT: true; the input reads as it did. -/
def portsetApartSpec : ChangeSpec := { name := "portsetApart", fn := fun _ => fun
  | [d1, d2, d3] => { results := [.lit (.bool true)], args := [d1, d2, d3] }
  | _ => none }
def portsetApartRow : OpenClaim := { program := "ytkiipegoooldiaa", sum := "1ac4081031f261ea3642bbf59fdb7ea581967eb339fba778d4dbec9513503bb0", func := "ferryman/ferrymanlaw09.PortsetApart", spec := "portsetApart", apart := false }
def PortsetApartSaid : Prop := portsetApartRow.holds Try.pinned (OpenSpec.ofChange portsetApartSpec)

/-- ITS FALSE NEIGHBOUR: 'it returns false'. Refute it at one input. -/
def portsetApartWrong : ChangeSpec := { name := "portsetApart", fn := fun _ => fun
  | [d1, d2, d3] => { results := [.lit (.bool false)], args := [d1, d2, d3] }
  | _ => none }
def PortsetApartWrongFalsely : Prop := portsetApartRow.holds Try.pinned (OpenSpec.ofChange portsetApartWrong)

/-- 'ferrymanlaw09.PortsetAt': WHATEVER THE INPUT: true; the input reads as it did. -/
def portsetAtSpec : ChangeSpec := { name := "portsetAt", fn := fun _ => fun
  | [d1, d2, d3] => { results := [.lit (.bool true)], args := [d1, d2, d3] }
  | _ => none }
def portsetAtRow : OpenClaim := { program := "ytkiipegoooldiaa", sum := "1ac4081031f261ea3642bbf59fdb7ea581967eb339fba778d4dbec9513503bb0", func := "ferryman/ferrymanlaw09.PortsetAt", spec := "portsetAt", unfollowed := true, recurses := true, apart := false }
def PortsetAtSaid : Prop := portsetAtRow.holds Try.pinned (OpenSpec.ofChange portsetAtSpec)

/-- ITS FALSE NEIGHBOUR: 'it returns false'. Refute it at one input. -/
def portsetAtWrong : ChangeSpec := { name := "portsetAt", fn := fun _ => fun
  | [d1, d2, d3] => { results := [.lit (.bool false)], args := [d1, d2, d3] }
  | _ => none }
def PortsetAtWrongFalsely : Prop := portsetAtRow.holds Try.pinned (OpenSpec.ofChange portsetAtWrong)

/-- 'ferrymanlaw09.PortsetBack': WHATEVER THE INPUT: true; the input reads as it did. -/
def portsetBackSpec : ChangeSpec := { name := "portsetBack", fn := fun _ => fun
  | [d1, d2] => { results := [.lit (.bool true)], args := [d1, d2] }
  | _ => none }
def portsetBackRow : OpenClaim := { program := "ytkiipegoooldiaa", sum := "1ac4081031f261ea3642bbf59fdb7ea581967eb339fba778d4dbec9513503bb0", func := "ferryman/ferrymanlaw09.PortsetBack", spec := "portsetBack", unfollowed := true, recurses := true, apart := false }
def PortsetBackSaid : Prop := portsetBackRow.holds Try.pinned (OpenSpec.ofChange portsetBackSpec)

/-- ITS FALSE NEIGHBOUR: 'it returns false'. Refute it at one input. -/
def portsetBackWrong : ChangeSpec := { name := "portsetBack", fn := fun _ => fun
  | [d1, d2] => { results := [.lit (.bool false)], args := [d1, d2] }
  | _ => none }
def PortsetBackWrongFalsely : Prop := portsetBackRow.holds Try.pinned (OpenSpec.ofChange portsetBackWrong)

/-- 'ferrymanlaw09.PortsetMany': WHATEVER THE INPUT: true; the input reads as it did. -/
def portsetManySpec : ChangeSpec := { name := "portsetMany", fn := fun _ => fun
  | [d1, d2] => { results := [.lit (.bool true)], args := [d1, d2] }
  | _ => none }
def portsetManyRow : OpenClaim := { program := "ytkiipegoooldiaa", sum := "1ac4081031f261ea3642bbf59fdb7ea581967eb339fba778d4dbec9513503bb0", func := "ferryman/ferrymanlaw09.PortsetMany", spec := "portsetMany", apart := false }
def PortsetManySaid : Prop := portsetManyRow.holds Try.pinned (OpenSpec.ofChange portsetManySpec)

/-- ITS FALSE NEIGHBOUR: 'it returns false'. Refute it at one input. -/
def portsetManyWrong : ChangeSpec := { name := "portsetMany", fn := fun _ => fun
  | [d1, d2] => { results := [.lit (.bool false)], args := [d1, d2] }
  | _ => none }
def PortsetManyWrongFalsely : Prop := portsetManyRow.holds Try.pinned (OpenSpec.ofChange portsetManyWrong)

/-- 'ferrymanlaw09.PortsetOf': WHATEVER THE INPUT: true; the input reads as it did. -/
def portsetOfSpec : ChangeSpec := { name := "portsetOf", fn := fun _ => fun
  | [d1, d2] => { results := [.lit (.bool true)], args := [d1, d2] }
  | _ => none }
def portsetOfRow : OpenClaim := { program := "ytkiipegoooldiaa", sum := "1ac4081031f261ea3642bbf59fdb7ea581967eb339fba778d4dbec9513503bb0", func := "ferryman/ferrymanlaw09.PortsetOf", spec := "portsetOf", apart := false }
def PortsetOfSaid : Prop := portsetOfRow.holds Try.pinned (OpenSpec.ofChange portsetOfSpec)

/-- ITS FALSE NEIGHBOUR: 'it returns false'. Refute it at one input. -/
def portsetOfWrong : ChangeSpec := { name := "portsetOf", fn := fun _ => fun
  | [d1, d2] => { results := [.lit (.bool false)], args := [d1, d2] }
  | _ => none }
def PortsetOfWrongFalsely : Prop := portsetOfRow.holds Try.pinned (OpenSpec.ofChange portsetOfWrong)

/-- 'ferrymanlaw09.PortsetRuns': WHATEVER THE INPUT: true; the input reads as it did. -/
def portsetRunsSpec : ChangeSpec := { name := "portsetRuns", fn := fun _ => fun
  | [d] => { results := [.lit (.bool true)], args := [d] }
  | _ => none }
def portsetRunsRow : OpenClaim := { program := "ytkiipegoooldiaa", sum := "1ac4081031f261ea3642bbf59fdb7ea581967eb339fba778d4dbec9513503bb0", func := "ferryman/ferrymanlaw09.PortsetRuns", spec := "portsetRuns", unfollowed := true, recurses := true, apart := false }
def PortsetRunsSaid : Prop := portsetRunsRow.holds Try.pinned (OpenSpec.ofChange portsetRunsSpec)

/-- ITS FALSE NEIGHBOUR: 'it returns false'. Refute it at one input. -/
def portsetRunsWrong : ChangeSpec := { name := "portsetRuns", fn := fun _ => fun
  | [d] => { results := [.lit (.bool false)], args := [d] }
  | _ => none }
def PortsetRunsWrongFalsely : Prop := portsetRunsRow.holds Try.pinned (OpenSpec.ofChange portsetRunsWrong)

/- THE SECOND FORM. 'bulk': how many values and letters a reading holds, each counted each time it is reached (what is shared counts as often as it is met; a slice's spare places count too). A statement '..UptoSaid' is the law's where the arguments, and the package variables that the reading takes, are together of bulk at most 1048576: NARROWER than '..Said'. Prove '..Said' where nothing that the law and all that it calls make is longer than what came in: it says more and counts as full. Else prove '..UptoSaid'. A law counts once. -/
mutual
def uptoBulk {H : Type} : DataW H → Nat
  | .lit (.string bytes) => bytes.length + 1
  | .lit _ => 1
  | .nil => 1
  | .ptr d => uptoBulk d + 1
  | .slice elems spare => uptoBulkAll elems + uptoBulkAll spare + 1
  | .agg parts => uptoBulkAll parts + 1
  | .iface _ d => uptoBulk d + 1
  | .map entries => uptoBulkEntries entries + 1
  | .held _ => 1
def uptoBulkAll {H : Type} : List (DataW H) → Nat
  | [] => 0
  | d :: r => uptoBulk d + uptoBulkAll r
def uptoBulkEntries {H : Type} : List (Lit × DataW H) → Nat
  | [] => 0
  | x :: r => uptoBulkEntry x + uptoBulkEntries r
def uptoBulkEntry {H : Type} : Lit × DataW H → Nat
  | (.string bytes, d) => bytes.length + uptoBulk d + 1
  | (_, d) => uptoBulk d + 1
 end
def uptoSmall : (H : Type) → List (DataW H) → Bool := fun _ ds => decide (uptoBulkAll ds ≤ 1048576)
def OpenSpec.upto (s : _root_.Go.ChangeSpec) : _root_.Go.OpenSpec := { _root_.Go.OpenSpec.ofChange s with cond := some uptoSmall }

/-- 'ferrymanlaw03.FieldBack', WHERE WHAT IT READS IS OF BULK AT MOST 1048576: true; the input reads as it did. -/
def fieldBackUptoRow : OpenClaim := { program := "ytkiipegoooldiaa", sum := "1ac4081031f261ea3642bbf59fdb7ea581967eb339fba778d4dbec9513503bb0", func := "ferryman/ferrymanlaw03.FieldBack", spec := "fieldBack", apart := false, narrowed := true }
def FieldBackUptoSaid : Prop := fieldBackUptoRow.holds Try.pinned (OpenSpec.upto fieldBackSpec)

/-- 'ferrymanlaw03.FieldCats', WHERE WHAT IT READS IS OF BULK AT MOST 1048576: true; the input reads as it did. -/
def fieldCatsUptoRow : OpenClaim := { program := "ytkiipegoooldiaa", sum := "1ac4081031f261ea3642bbf59fdb7ea581967eb339fba778d4dbec9513503bb0", func := "ferryman/ferrymanlaw03.FieldCats", spec := "fieldCats", apart := false, narrowed := true }
def FieldCatsUptoSaid : Prop := fieldCatsUptoRow.holds Try.pinned (OpenSpec.upto fieldCatsSpec)

/-- 'ferrymanlaw03.FieldGets', WHERE WHAT IT READS IS OF BULK AT MOST 1048576: true; the input reads as it did. -/
def fieldGetsUptoRow : OpenClaim := { program := "ytkiipegoooldiaa", sum := "1ac4081031f261ea3642bbf59fdb7ea581967eb339fba778d4dbec9513503bb0", func := "ferryman/ferrymanlaw03.FieldGets", spec := "fieldGets", apart := false, narrowed := true }
def FieldGetsUptoSaid : Prop := fieldGetsUptoRow.holds Try.pinned (OpenSpec.upto fieldGetsSpec)

/-- 'ferrymanlaw03.FieldLeads', WHERE WHAT IT READS IS OF BULK AT MOST 1048576: true; the input reads as it did. -/
def fieldLeadsUptoRow : OpenClaim := { program := "ytkiipegoooldiaa", sum := "1ac4081031f261ea3642bbf59fdb7ea581967eb339fba778d4dbec9513503bb0", func := "ferryman/ferrymanlaw03.FieldLeads", spec := "fieldLeads", apart := false, narrowed := true }
def FieldLeadsUptoSaid : Prop := fieldLeadsUptoRow.holds Try.pinned (OpenSpec.upto fieldLeadsSpec)

/-- 'ferrymanlaw03.FieldRuns', WHERE WHAT IT READS IS OF BULK AT MOST 1048576: true; the input reads as it did. -/
def fieldRunsUptoRow : OpenClaim := { program := "ytkiipegoooldiaa", sum := "1ac4081031f261ea3642bbf59fdb7ea581967eb339fba778d4dbec9513503bb0", func := "ferryman/ferrymanlaw03.FieldRuns", spec := "fieldRuns", apart := false, narrowed := true }
def FieldRunsUptoSaid : Prop := fieldRunsUptoRow.holds Try.pinned (OpenSpec.upto fieldRunsSpec)

/-- 'ferrymanlaw03.FieldTexts', WHERE WHAT IT READS IS OF BULK AT MOST 1048576: true; the input reads as it did. -/
def fieldTextsUptoRow : OpenClaim := { program := "ytkiipegoooldiaa", sum := "1ac4081031f261ea3642bbf59fdb7ea581967eb339fba778d4dbec9513503bb0", func := "ferryman/ferrymanlaw03.FieldTexts", spec := "fieldTexts", apart := false, narrowed := true }
def FieldTextsUptoSaid : Prop := fieldTextsUptoRow.holds Try.pinned (OpenSpec.upto fieldTextsSpec)

/-- 'ferrymanlaw09.PortsetApart', WHERE WHAT IT READS IS OF BULK AT MOST 1048576: true; the input reads as it did. -/
def portsetApartUptoRow : OpenClaim := { program := "ytkiipegoooldiaa", sum := "1ac4081031f261ea3642bbf59fdb7ea581967eb339fba778d4dbec9513503bb0", func := "ferryman/ferrymanlaw09.PortsetApart", spec := "portsetApart", apart := false, narrowed := true }
def PortsetApartUptoSaid : Prop := portsetApartUptoRow.holds Try.pinned (OpenSpec.upto portsetApartSpec)

/-- 'ferrymanlaw09.PortsetAt', WHERE WHAT IT READS IS OF BULK AT MOST 1048576: true; the input reads as it did. -/
def portsetAtUptoRow : OpenClaim := { program := "ytkiipegoooldiaa", sum := "1ac4081031f261ea3642bbf59fdb7ea581967eb339fba778d4dbec9513503bb0", func := "ferryman/ferrymanlaw09.PortsetAt", spec := "portsetAt", unfollowed := true, recurses := true, apart := false, narrowed := true }
def PortsetAtUptoSaid : Prop := portsetAtUptoRow.holds Try.pinned (OpenSpec.upto portsetAtSpec)

/-- 'ferrymanlaw09.PortsetBack', WHERE WHAT IT READS IS OF BULK AT MOST 1048576: true; the input reads as it did. -/
def portsetBackUptoRow : OpenClaim := { program := "ytkiipegoooldiaa", sum := "1ac4081031f261ea3642bbf59fdb7ea581967eb339fba778d4dbec9513503bb0", func := "ferryman/ferrymanlaw09.PortsetBack", spec := "portsetBack", unfollowed := true, recurses := true, apart := false, narrowed := true }
def PortsetBackUptoSaid : Prop := portsetBackUptoRow.holds Try.pinned (OpenSpec.upto portsetBackSpec)

/-- 'ferrymanlaw09.PortsetMany', WHERE WHAT IT READS IS OF BULK AT MOST 1048576: true; the input reads as it did. -/
def portsetManyUptoRow : OpenClaim := { program := "ytkiipegoooldiaa", sum := "1ac4081031f261ea3642bbf59fdb7ea581967eb339fba778d4dbec9513503bb0", func := "ferryman/ferrymanlaw09.PortsetMany", spec := "portsetMany", apart := false, narrowed := true }
def PortsetManyUptoSaid : Prop := portsetManyUptoRow.holds Try.pinned (OpenSpec.upto portsetManySpec)

/-- 'ferrymanlaw09.PortsetOf', WHERE WHAT IT READS IS OF BULK AT MOST 1048576: true; the input reads as it did. -/
def portsetOfUptoRow : OpenClaim := { program := "ytkiipegoooldiaa", sum := "1ac4081031f261ea3642bbf59fdb7ea581967eb339fba778d4dbec9513503bb0", func := "ferryman/ferrymanlaw09.PortsetOf", spec := "portsetOf", apart := false, narrowed := true }
def PortsetOfUptoSaid : Prop := portsetOfUptoRow.holds Try.pinned (OpenSpec.upto portsetOfSpec)

/-- 'ferrymanlaw09.PortsetRuns', WHERE WHAT IT READS IS OF BULK AT MOST 1048576: true; the input reads as it did. -/
def portsetRunsUptoRow : OpenClaim := { program := "ytkiipegoooldiaa", sum := "1ac4081031f261ea3642bbf59fdb7ea581967eb339fba778d4dbec9513503bb0", func := "ferryman/ferrymanlaw09.PortsetRuns", spec := "portsetRuns", unfollowed := true, recurses := true, apart := false, narrowed := true }
def PortsetRunsUptoSaid : Prop := portsetRunsUptoRow.holds Try.pinned (OpenSpec.upto portsetRunsSpec)

end Rows
end Go.Proofs.Ytkiipegoooldiaa
