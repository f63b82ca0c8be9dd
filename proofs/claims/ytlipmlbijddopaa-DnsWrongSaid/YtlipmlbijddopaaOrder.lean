import Derived.Test.YtlipmlbijddopaaLib
set_option linter.unusedVariables false
namespace Go.Proofs.Ytlipmlbijddopaa
open Go.RowKit

/-- whether a name is under a zone -/
def underN (n z : List (List UInt8)) : Bool := decide (z.length ≤ n.length) && decide (n.drop (n.length - z.length) = z)
/-- names compared, label by label from the right -/
def cmpR : List (List UInt8) → List (List UInt8) → Int
  | [], [] => 0
  | [], _ :: _ => -1
  | _ :: _, [] => 1
  | x :: xs, y :: ys => if Lib.compareBytes x y = 0 then cmpR xs ys else Lib.compareBytes x y
def cmpN (a b : List (List UInt8)) : Int := cmpR a.reverse b.reverse

end Go.Proofs.Ytlipmlbijddopaa
