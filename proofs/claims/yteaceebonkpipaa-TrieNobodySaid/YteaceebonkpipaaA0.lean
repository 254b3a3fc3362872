/- What package variables hold, and the loops over functions. -/
import Derived.Test.YteaceebonkpipaaB9
namespace Go.Abs

def globInts : Nat → List (IntKind × Int) := fun _ => []
/-- The loops over functions, by number: what a round binds, assigns, runs. -/
noncomputable def recTab : Nat → Option (List Tmp × Code × Code) := recGet []

end Go.Abs
