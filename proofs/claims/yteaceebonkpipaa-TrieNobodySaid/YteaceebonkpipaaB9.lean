/- Loops over functions in a code: definitions only. -/
import GoSem.Dispatch
import GoSem.Claims
namespace Go.Abs

/-- Loops over functions. -/
def rangesOf : Code → List Code
  | .seq a b => rangesOf a ++ rangesOf b
  | .cond _ a b => rangesOf a ++ rangesOf b
  | .block _ b => rangesOf b
  | .scope b => rangesOf b
  | .loop b => rangesOf b
  | .rangeFunc g ps asg bd => [.rangeFunc g ps asg bd]
  | _ => []

def bodyOf (fn : Func) : Code :=
  match fn.body with
  | some c => c
  | none => .skip
/-- What a round of a loop over a function binds, assigns, runs. -/
def bodyAt : Code → Option (List Tmp × Code × Code)
  | .rangeFunc _ ps asg bd => some (ps.toList, asg, bd)
  | _ => none
/-- The same of a function's n-th loop over a function. -/
def recOf (fn : Func) (n : Nat) : Option (List Tmp × Code × Code) :=
  match (rangesOf (bodyOf fn))[n]? with
  | some c => bodyAt c
  | none => none
def recGet : List (Nat × Option (List Tmp × Code × Code)) → Nat → Option (List Tmp × Code × Code)
  | [], _ => none
  | (g, S) :: r, f => match g == f with
    | true => S
    | false => recGet r f

end Go.Abs
