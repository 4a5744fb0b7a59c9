/- number.minus, number.times. -/
import Derived.Test.YtkcogoibaodbeaaGreatDoorNum3
set_option linter.unusedVariables false
set_option linter.unusedSimpArgs false
namespace Go.Proofs.YtkcogoibaodbeaaGreatDoor
open Go.RowKit
attribute [local irreducible] ncells wcells
end Go.Proofs.YtkcogoibaodbeaaGreatDoor
