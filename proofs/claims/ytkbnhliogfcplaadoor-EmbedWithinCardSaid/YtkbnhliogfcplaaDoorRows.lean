/-
  NARROWER THAN 'FOR EVERY INPUT', by the rows' own cells (each row's printed sentence says how): EmbedRanges: laid · EmbedWithin: laid · EmbedGlobals: laid · EmbedPuts: laid · EmbedGets: laid · EmbedBack: laid.
  DERIVED. THE GIVEN ROWS OF THIS SEAT. 6 by the template 'for every input the law returns true; each argument reads behind the call as it read before'; 0 by the template 'total and deterministic' (their statements: YtkbnhliogfcplaaDoorTotals.lean).
  GIVEN WITH THE SEED: the statements are not yours to turn. If you find one false, say at which input.
  Laid BY PROGRAM, IN A SANDBOX (cutbox-rows.mjs): the forced cells as the released guide's own fill.sh prints them over the translation b0a9d64b6829b57d… (all of the seat's roots in one cut). By AI agents, Wed Nov 11 2026. No macro, syntax, notation, axiom, sorry.
-/
import Derived.Test.YtkbnhliogfcplaaDoorChecked
import GoSem.Claim
import GoSem.ClaimJoined
import GoSem.ClaimMapViews
import Derived.JoinedTies
import Derived.KernelRfl
namespace Go.Proofs.YtkbnhliogfcplaaDoor
/- THE CELL 'sum', in the pinned program and in every row, IS THE sha256 OF THE DUMP (.gsa) THAT YtkbnhliogfcplaaDoorProg.lean LOADS. Nothing in Lean hashes anything: it is a label: what it is worth is what the hold of that sum in a sandbox is worth. -/
noncomputable def Tryd.pinned : Pinned := { name := "ytkbnhliogfcplaadoor", sum := "b0a9d64b6829b57d1056b3ebb6c4d7142c1731ccdc44e087277f32cde5bfed9f", checked := Tryd.checked }
namespace Rows
def none {H : Type} : Left H := { results := [], args := [] }

/- WHAT THE LISTED PACKAGE-LEVEL VARIABLES READ AS WHEN THE CALL BEGINS. Each datum BY PROGRAM (the guide's laid-datum.mjs) off the statement by which the dump's own 'gosem.cut.vars' lays the variable. In a bare row this is a premise. The card (YtkbnhliogfcplaaDoorCards.lean) ties it to the program's text. -/
def laid_math_bits_deBruijn32tab {H : Type} : DataW H := .agg [.lit (.int .u8 0), .lit (.int .u8 1), .lit (.int .u8 28), .lit (.int .u8 2), .lit (.int .u8 29), .lit (.int .u8 14), .lit (.int .u8 24), .lit (.int .u8 3), .lit (.int .u8 30), .lit (.int .u8 22), .lit (.int .u8 20), .lit (.int .u8 15), .lit (.int .u8 25), .lit (.int .u8 17), .lit (.int .u8 4), .lit (.int .u8 8), .lit (.int .u8 31), .lit (.int .u8 27), .lit (.int .u8 13), .lit (.int .u8 23), .lit (.int .u8 21), .lit (.int .u8 19), .lit (.int .u8 16), .lit (.int .u8 7), .lit (.int .u8 26), .lit (.int .u8 12), .lit (.int .u8 18), .lit (.int .u8 6), .lit (.int .u8 11), .lit (.int .u8 5), .lit (.int .u8 10), .lit (.int .u8 9)]
def laid_math_bits_deBruijn64tab {H : Type} : DataW H := .agg [.lit (.int .u8 0), .lit (.int .u8 1), .lit (.int .u8 56), .lit (.int .u8 2), .lit (.int .u8 57), .lit (.int .u8 49), .lit (.int .u8 28), .lit (.int .u8 3), .lit (.int .u8 61), .lit (.int .u8 58), .lit (.int .u8 42), .lit (.int .u8 50), .lit (.int .u8 38), .lit (.int .u8 29), .lit (.int .u8 17), .lit (.int .u8 4), .lit (.int .u8 62), .lit (.int .u8 47), .lit (.int .u8 59), .lit (.int .u8 36), .lit (.int .u8 45), .lit (.int .u8 43), .lit (.int .u8 51), .lit (.int .u8 22), .lit (.int .u8 53), .lit (.int .u8 39), .lit (.int .u8 33), .lit (.int .u8 30), .lit (.int .u8 24), .lit (.int .u8 18), .lit (.int .u8 12), .lit (.int .u8 5), .lit (.int .u8 63), .lit (.int .u8 55), .lit (.int .u8 48), .lit (.int .u8 27), .lit (.int .u8 60), .lit (.int .u8 41), .lit (.int .u8 37), .lit (.int .u8 16), .lit (.int .u8 46), .lit (.int .u8 35), .lit (.int .u8 44), .lit (.int .u8 21), .lit (.int .u8 52), .lit (.int .u8 32), .lit (.int .u8 23), .lit (.int .u8 11), .lit (.int .u8 54), .lit (.int .u8 26), .lit (.int .u8 40), .lit (.int .u8 15), .lit (.int .u8 34), .lit (.int .u8 20), .lit (.int .u8 31), .lit (.int .u8 10), .lit (.int .u8 25), .lit (.int .u8 14), .lit (.int .u8 19), .lit (.int .u8 9), .lit (.int .u8 13), .lit (.int .u8 8), .lit (.int .u8 7), .lit (.int .u8 6)]
def laid_internal_strconv_uint64pow10 {H : Type} : DataW H := .agg [.lit (.int .u64 1), .lit (.int .u64 10), .lit (.int .u64 100), .lit (.int .u64 1000), .lit (.int .u64 10000), .lit (.int .u64 100000), .lit (.int .u64 1000000), .lit (.int .u64 10000000), .lit (.int .u64 100000000), .lit (.int .u64 1000000000), .lit (.int .u64 10000000000), .lit (.int .u64 100000000000), .lit (.int .u64 1000000000000), .lit (.int .u64 10000000000000), .lit (.int .u64 100000000000000), .lit (.int .u64 1000000000000000), .lit (.int .u64 10000000000000000), .lit (.int .u64 100000000000000000), .lit (.int .u64 1000000000000000000), .lit (.int .u64 10000000000000000000)]

/-- 'ferrymanlaw08.EmbedRanges': WHATEVER THE INPUT: true; the input reads as it did. -/
def embedRangesSpec : ChangeSpec := { name := "embedRanges", fn := fun _ => fun
  | [d1, d2] => { results := [.lit (.bool true)], args := [d1, d2] }
  | _ => none }
def embedRangesRow : OpenClaim := { program := "ytkbnhliogfcplaadoor", sum := "b0a9d64b6829b57d1056b3ebb6c4d7142c1731ccdc44e087277f32cde5bfed9f", func := "ferryman/ferrymanlaw08.EmbedRanges", spec := "embedRanges", named := ["internal/strconv.uint64pow10", "math/bits.deBruijn32tab", "math/bits.deBruijn64tab"], apart := false, laid := [("math/bits.deBruijn32tab", laid_math_bits_deBruijn32tab), ("math/bits.deBruijn64tab", laid_math_bits_deBruijn64tab), ("internal/strconv.uint64pow10", laid_internal_strconv_uint64pow10)] }
def EmbedRangesSaid : Prop := embedRangesRow.holds Tryd.pinned (OpenSpec.ofChange embedRangesSpec)

/-- ITS FALSE NEIGHBOUR: 'it returns false'. Refute it at one input. -/
def embedRangesWrong : ChangeSpec := { name := "embedRanges", fn := fun _ => fun
  | [d1, d2] => { results := [.lit (.bool false)], args := [d1, d2] }
  | _ => none }
def EmbedRangesWrongFalsely : Prop := embedRangesRow.holds Tryd.pinned (OpenSpec.ofChange embedRangesWrong)

/-- 'ferrymanlaw08.EmbedWithin': WHATEVER THE INPUT: true; the input reads as it did. -/
def embedWithinSpec : ChangeSpec := { name := "embedWithin", fn := fun _ => fun
  | [d1, d2, d3] => { results := [.lit (.bool true)], args := [d1, d2, d3] }
  | _ => none }
def embedWithinRow : OpenClaim := { program := "ytkbnhliogfcplaadoor", sum := "b0a9d64b6829b57d1056b3ebb6c4d7142c1731ccdc44e087277f32cde5bfed9f", func := "ferryman/ferrymanlaw08.EmbedWithin", spec := "embedWithin", named := ["internal/strconv.uint64pow10", "math/bits.deBruijn32tab", "math/bits.deBruijn64tab"], apart := false, laid := [("math/bits.deBruijn32tab", laid_math_bits_deBruijn32tab), ("math/bits.deBruijn64tab", laid_math_bits_deBruijn64tab), ("internal/strconv.uint64pow10", laid_internal_strconv_uint64pow10)] }
def EmbedWithinSaid : Prop := embedWithinRow.holds Tryd.pinned (OpenSpec.ofChange embedWithinSpec)

/-- ITS FALSE NEIGHBOUR: 'it returns false'. Refute it at one input. -/
def embedWithinWrong : ChangeSpec := { name := "embedWithin", fn := fun _ => fun
  | [d1, d2, d3] => { results := [.lit (.bool false)], args := [d1, d2, d3] }
  | _ => none }
def EmbedWithinWrongFalsely : Prop := embedWithinRow.holds Tryd.pinned (OpenSpec.ofChange embedWithinWrong)

/-- 'ferrymanlaw08.EmbedGlobals': WHATEVER THE INPUT: true; the input reads as it did. -/
def embedGlobalsSpec : ChangeSpec := { name := "embedGlobals", fn := fun _ => fun
  | [d] => { results := [.lit (.bool true)], args := [d] }
  | _ => none }
def embedGlobalsRow : OpenClaim := { program := "ytkbnhliogfcplaadoor", sum := "b0a9d64b6829b57d1056b3ebb6c4d7142c1731ccdc44e087277f32cde5bfed9f", func := "ferryman/ferrymanlaw08.EmbedGlobals", spec := "embedGlobals", named := ["internal/strconv.uint64pow10", "math/bits.deBruijn32tab", "math/bits.deBruijn64tab"], apart := false, laid := [("math/bits.deBruijn32tab", laid_math_bits_deBruijn32tab), ("math/bits.deBruijn64tab", laid_math_bits_deBruijn64tab), ("internal/strconv.uint64pow10", laid_internal_strconv_uint64pow10)] }
def EmbedGlobalsSaid : Prop := embedGlobalsRow.holds Tryd.pinned (OpenSpec.ofChange embedGlobalsSpec)

/-- ITS FALSE NEIGHBOUR: 'it returns false'. Refute it at one input. -/
def embedGlobalsWrong : ChangeSpec := { name := "embedGlobals", fn := fun _ => fun
  | [d] => { results := [.lit (.bool false)], args := [d] }
  | _ => none }
def EmbedGlobalsWrongFalsely : Prop := embedGlobalsRow.holds Tryd.pinned (OpenSpec.ofChange embedGlobalsWrong)

/-- 'ferrymanlaw08.EmbedPuts': WHATEVER THE INPUT: true; the input reads as it did. -/
def embedPutsSpec : ChangeSpec := { name := "embedPuts", fn := fun _ => fun
  | [d1, d2, d3] => { results := [.lit (.bool true)], args := [d1, d2, d3] }
  | _ => none }
def embedPutsRow : OpenClaim := { program := "ytkbnhliogfcplaadoor", sum := "b0a9d64b6829b57d1056b3ebb6c4d7142c1731ccdc44e087277f32cde5bfed9f", func := "ferryman/ferrymanlaw08.EmbedPuts", spec := "embedPuts", named := ["internal/strconv.uint64pow10", "math/bits.deBruijn32tab", "math/bits.deBruijn64tab"], apart := false, laid := [("math/bits.deBruijn32tab", laid_math_bits_deBruijn32tab), ("math/bits.deBruijn64tab", laid_math_bits_deBruijn64tab), ("internal/strconv.uint64pow10", laid_internal_strconv_uint64pow10)] }
def EmbedPutsSaid : Prop := embedPutsRow.holds Tryd.pinned (OpenSpec.ofChange embedPutsSpec)

/-- ITS FALSE NEIGHBOUR: 'it returns false'. Refute it at one input. -/
def embedPutsWrong : ChangeSpec := { name := "embedPuts", fn := fun _ => fun
  | [d1, d2, d3] => { results := [.lit (.bool false)], args := [d1, d2, d3] }
  | _ => none }
def EmbedPutsWrongFalsely : Prop := embedPutsRow.holds Tryd.pinned (OpenSpec.ofChange embedPutsWrong)

/-- 'ferrymanlaw08.EmbedGets': WHATEVER THE INPUT: true; the input reads as it did. -/
def embedGetsSpec : ChangeSpec := { name := "embedGets", fn := fun _ => fun
  | [d1, d2] => { results := [.lit (.bool true)], args := [d1, d2] }
  | _ => none }
def embedGetsRow : OpenClaim := { program := "ytkbnhliogfcplaadoor", sum := "b0a9d64b6829b57d1056b3ebb6c4d7142c1731ccdc44e087277f32cde5bfed9f", func := "ferryman/ferrymanlaw08.EmbedGets", spec := "embedGets", named := ["internal/strconv.uint64pow10", "math/bits.deBruijn32tab", "math/bits.deBruijn64tab"], apart := false, laid := [("math/bits.deBruijn32tab", laid_math_bits_deBruijn32tab), ("math/bits.deBruijn64tab", laid_math_bits_deBruijn64tab), ("internal/strconv.uint64pow10", laid_internal_strconv_uint64pow10)] }
def EmbedGetsSaid : Prop := embedGetsRow.holds Tryd.pinned (OpenSpec.ofChange embedGetsSpec)

/-- ITS FALSE NEIGHBOUR: 'it returns false'. Refute it at one input. -/
def embedGetsWrong : ChangeSpec := { name := "embedGets", fn := fun _ => fun
  | [d1, d2] => { results := [.lit (.bool false)], args := [d1, d2] }
  | _ => none }
def EmbedGetsWrongFalsely : Prop := embedGetsRow.holds Tryd.pinned (OpenSpec.ofChange embedGetsWrong)

/-- 'ferrymanlaw08.EmbedBack': WHATEVER THE INPUT: true; the input reads as it did. -/
def embedBackSpec : ChangeSpec := { name := "embedBack", fn := fun _ => fun
  | [d1, d2, d3, d4] => { results := [.lit (.bool true)], args := [d1, d2, d3, d4] }
  | _ => none }
def embedBackRow : OpenClaim := { program := "ytkbnhliogfcplaadoor", sum := "b0a9d64b6829b57d1056b3ebb6c4d7142c1731ccdc44e087277f32cde5bfed9f", func := "ferryman/ferrymanlaw08.EmbedBack", spec := "embedBack", named := ["internal/strconv.uint64pow10", "math/bits.deBruijn32tab", "math/bits.deBruijn64tab"], apart := false, laid := [("math/bits.deBruijn32tab", laid_math_bits_deBruijn32tab), ("math/bits.deBruijn64tab", laid_math_bits_deBruijn64tab), ("internal/strconv.uint64pow10", laid_internal_strconv_uint64pow10)] }
def EmbedBackSaid : Prop := embedBackRow.holds Tryd.pinned (OpenSpec.ofChange embedBackSpec)

/-- ITS FALSE NEIGHBOUR: 'it returns false'. Refute it at one input. -/
def embedBackWrong : ChangeSpec := { name := "embedBack", fn := fun _ => fun
  | [d1, d2, d3, d4] => { results := [.lit (.bool false)], args := [d1, d2, d3, d4] }
  | _ => none }
def EmbedBackWrongFalsely : Prop := embedBackRow.holds Tryd.pinned (OpenSpec.ofChange embedBackWrong)

/- THE SECOND FORM. 'bulk': how many values and letters a reading holds, each counted each time it is reached (what is shared counts as often as it is met; a slice's spare places count too). A statement '..UptoSaid' is the law's where the arguments, and the package variables that the reading takes, are together of bulk at most 1048576: NARROWER than '..Said'. Prove '..Said' where nothing that the law and all that it calls make is longer than what came in: it says more and counts as full. Else prove '..UptoSaid'. A law counts once. -/
mutual
def uptoBulk {H : Type} : DataW H → Nat
  | .lit (.string bytes) => bytes.length + 1
  | .lit _ => 1
  | .nil => 1
  | .ptr d => uptoBulk d + 1
  | .slice elems spare => uptoBulkAll elems + uptoBulkAll spare + 1
  | .agg parts => uptoBulkAll parts + 1
  | .iface _ d => uptoBulk d + 1
  | .map entries => uptoBulkEntries entries + 1
  | .held _ => 1
def uptoBulkAll {H : Type} : List (DataW H) → Nat
  | [] => 0
  | d :: r => uptoBulk d + uptoBulkAll r
def uptoBulkEntries {H : Type} : List (Lit × DataW H) → Nat
  | [] => 0
  | x :: r => uptoBulkEntry x + uptoBulkEntries r
def uptoBulkEntry {H : Type} : Lit × DataW H → Nat
  | (.string bytes, d) => bytes.length + uptoBulk d + 1
  | (_, d) => uptoBulk d + 1
 end
def uptoSmall : (H : Type) → List (DataW H) → Bool := fun _ ds => decide (uptoBulkAll ds ≤ 1048576)
def OpenSpec.upto (s : _root_.Go.ChangeSpec) : _root_.Go.OpenSpec := { _root_.Go.OpenSpec.ofChange s with cond := some uptoSmall }

/-- 'ferrymanlaw08.EmbedRanges', WHERE WHAT IT READS IS OF BULK AT MOST 1048576: true; the input reads as it did. -/
def embedRangesUptoRow : OpenClaim := { program := "ytkbnhliogfcplaadoor", sum := "b0a9d64b6829b57d1056b3ebb6c4d7142c1731ccdc44e087277f32cde5bfed9f", func := "ferryman/ferrymanlaw08.EmbedRanges", spec := "embedRanges", named := ["internal/strconv.uint64pow10", "math/bits.deBruijn32tab", "math/bits.deBruijn64tab"], apart := false, laid := [("math/bits.deBruijn32tab", laid_math_bits_deBruijn32tab), ("math/bits.deBruijn64tab", laid_math_bits_deBruijn64tab), ("internal/strconv.uint64pow10", laid_internal_strconv_uint64pow10)], narrowed := true }
def EmbedRangesUptoSaid : Prop := embedRangesUptoRow.holds Tryd.pinned (OpenSpec.upto embedRangesSpec)

/-- 'ferrymanlaw08.EmbedWithin', WHERE WHAT IT READS IS OF BULK AT MOST 1048576: true; the input reads as it did. -/
def embedWithinUptoRow : OpenClaim := { program := "ytkbnhliogfcplaadoor", sum := "b0a9d64b6829b57d1056b3ebb6c4d7142c1731ccdc44e087277f32cde5bfed9f", func := "ferryman/ferrymanlaw08.EmbedWithin", spec := "embedWithin", named := ["internal/strconv.uint64pow10", "math/bits.deBruijn32tab", "math/bits.deBruijn64tab"], apart := false, laid := [("math/bits.deBruijn32tab", laid_math_bits_deBruijn32tab), ("math/bits.deBruijn64tab", laid_math_bits_deBruijn64tab), ("internal/strconv.uint64pow10", laid_internal_strconv_uint64pow10)], narrowed := true }
def EmbedWithinUptoSaid : Prop := embedWithinUptoRow.holds Tryd.pinned (OpenSpec.upto embedWithinSpec)

/-- 'ferrymanlaw08.EmbedGlobals', WHERE WHAT IT READS IS OF BULK AT MOST 1048576: true; the input reads as it did. -/
def embedGlobalsUptoRow : OpenClaim := { program := "ytkbnhliogfcplaadoor", sum := "b0a9d64b6829b57d1056b3ebb6c4d7142c1731ccdc44e087277f32cde5bfed9f", func := "ferryman/ferrymanlaw08.EmbedGlobals", spec := "embedGlobals", named := ["internal/strconv.uint64pow10", "math/bits.deBruijn32tab", "math/bits.deBruijn64tab"], apart := false, laid := [("math/bits.deBruijn32tab", laid_math_bits_deBruijn32tab), ("math/bits.deBruijn64tab", laid_math_bits_deBruijn64tab), ("internal/strconv.uint64pow10", laid_internal_strconv_uint64pow10)], narrowed := true }
def EmbedGlobalsUptoSaid : Prop := embedGlobalsUptoRow.holds Tryd.pinned (OpenSpec.upto embedGlobalsSpec)

/-- 'ferrymanlaw08.EmbedPuts', WHERE WHAT IT READS IS OF BULK AT MOST 1048576: true; the input reads as it did. -/
def embedPutsUptoRow : OpenClaim := { program := "ytkbnhliogfcplaadoor", sum := "b0a9d64b6829b57d1056b3ebb6c4d7142c1731ccdc44e087277f32cde5bfed9f", func := "ferryman/ferrymanlaw08.EmbedPuts", spec := "embedPuts", named := ["internal/strconv.uint64pow10", "math/bits.deBruijn32tab", "math/bits.deBruijn64tab"], apart := false, laid := [("math/bits.deBruijn32tab", laid_math_bits_deBruijn32tab), ("math/bits.deBruijn64tab", laid_math_bits_deBruijn64tab), ("internal/strconv.uint64pow10", laid_internal_strconv_uint64pow10)], narrowed := true }
def EmbedPutsUptoSaid : Prop := embedPutsUptoRow.holds Tryd.pinned (OpenSpec.upto embedPutsSpec)

/-- 'ferrymanlaw08.EmbedGets', WHERE WHAT IT READS IS OF BULK AT MOST 1048576: true; the input reads as it did. -/
def embedGetsUptoRow : OpenClaim := { program := "ytkbnhliogfcplaadoor", sum := "b0a9d64b6829b57d1056b3ebb6c4d7142c1731ccdc44e087277f32cde5bfed9f", func := "ferryman/ferrymanlaw08.EmbedGets", spec := "embedGets", named := ["internal/strconv.uint64pow10", "math/bits.deBruijn32tab", "math/bits.deBruijn64tab"], apart := false, laid := [("math/bits.deBruijn32tab", laid_math_bits_deBruijn32tab), ("math/bits.deBruijn64tab", laid_math_bits_deBruijn64tab), ("internal/strconv.uint64pow10", laid_internal_strconv_uint64pow10)], narrowed := true }
def EmbedGetsUptoSaid : Prop := embedGetsUptoRow.holds Tryd.pinned (OpenSpec.upto embedGetsSpec)

/-- 'ferrymanlaw08.EmbedBack', WHERE WHAT IT READS IS OF BULK AT MOST 1048576: true; the input reads as it did. -/
def embedBackUptoRow : OpenClaim := { program := "ytkbnhliogfcplaadoor", sum := "b0a9d64b6829b57d1056b3ebb6c4d7142c1731ccdc44e087277f32cde5bfed9f", func := "ferryman/ferrymanlaw08.EmbedBack", spec := "embedBack", named := ["internal/strconv.uint64pow10", "math/bits.deBruijn32tab", "math/bits.deBruijn64tab"], apart := false, laid := [("math/bits.deBruijn32tab", laid_math_bits_deBruijn32tab), ("math/bits.deBruijn64tab", laid_math_bits_deBruijn64tab), ("internal/strconv.uint64pow10", laid_internal_strconv_uint64pow10)], narrowed := true }
def EmbedBackUptoSaid : Prop := embedBackUptoRow.holds Tryd.pinned (OpenSpec.upto embedBackSpec)

end Rows
end Go.Proofs.YtkbnhliogfcplaaDoor
