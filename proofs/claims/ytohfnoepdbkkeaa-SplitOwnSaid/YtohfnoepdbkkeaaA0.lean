/- What package variables hold, and the loops over functions. -/
import Derived.Test.YtohfnoepdbkkeaaB9
import Derived.Test.YtohfnoepdbkkeaaProg
namespace Go.Abs
open Go.Proofs

def globInts : Nat → List (IntKind × Int) := fun _ => []
/-- The loops over functions, by number: what a round binds, assigns, runs. -/
noncomputable def recTab : Nat → Option (List Tmp × Code × Code) := recGet [(170013, recOf Try.f17 0), (1000170013, recOf Try.f17 0)]

end Go.Abs
