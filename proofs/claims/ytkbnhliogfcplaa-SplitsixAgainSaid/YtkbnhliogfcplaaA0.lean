/- What package variables hold, and the loops over functions. -/
import Derived.Test.YtkbnhliogfcplaaB9
import Derived.Test.YtkbnhliogfcplaaProg
namespace Go.Abs
open Go.Proofs

def globInts : Nat → List (IntKind × Int) := fun _ => []
/-- The loops over functions, by number: what a round binds, assigns, runs. -/
noncomputable def recTab : Nat → Option (List Tmp × Code × Code) := recGet [(90018, recOf Try.f9 0), (1000090018, recOf Try.f9 0)]

end Go.Abs
