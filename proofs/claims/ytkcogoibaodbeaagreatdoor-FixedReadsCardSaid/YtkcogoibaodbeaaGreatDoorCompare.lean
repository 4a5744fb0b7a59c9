/- Compare of two decimals' texts. -/
import Derived.Test.YtkcogoibaodbeaaGreatDoorTwo
set_option linter.unusedVariables false
set_option linter.unusedSimpArgs false
namespace Go.Proofs.YtkcogoibaodbeaaGreatDoor
open Go.RowKit
attribute [local irreducible] ncells wcells txt
def cmpN (neg : Bool) (u : Nat) : Int := if u = 0 then 0 else if neg then -1 else 1
end Go.Proofs.YtkcogoibaodbeaaGreatDoor
