/- What package variables hold, and the loops over functions. -/
import Derived.Test.YtkiipegoooldiaaB9
import Derived.Test.YtkiipegoooldiaaProg
namespace Go.Abs
open Go.Proofs

def globInts : Nat → List (IntKind × Int) := fun _ => []
/-- The loops over functions, by number: what a round binds, assigns, runs. -/
noncomputable def recTab : Nat → Option (List Tmp × Code × Code) := recGet [(430006, recOf Try.f43 0), (490007, recOf Try.f49 0)]

end Go.Abs
