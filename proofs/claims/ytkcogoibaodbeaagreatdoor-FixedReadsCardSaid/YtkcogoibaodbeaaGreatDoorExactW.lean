/- The walk of FixedExact. -/
import Derived.Test.YtkcogoibaodbeaaGreatDoorAwake
set_option linter.unusedVariables false
set_option linter.unusedSimpArgs false
namespace Go.Proofs.YtkcogoibaodbeaaGreatDoor
open Go.RowKit
attribute [local irreducible] txt
set_option maxRecDepth 100000 in
set_option maxHeartbeats 1000000 in
theorem of_bad (M s : Int) (w : World) (h : s < 0 ∨ 31 < s) :
    Calls Tryz.prog 14 #[.int .i64 M, .int .i64 s] w fun e w' => e = .returned (.tuple #[.string ⟨#[]⟩, .int .i64 7]) ∧ Below w.heap.size w w' := by
  by_cases h1 : s < 0
  · go_enter Tryz.func14, Tryz.ntmps14
    go_wp2
    go_ret2
    exact ⟨rfl, Below.refl _ _⟩
  · have h2 : 31 < s := by omega
    go_enter Tryz.func14, Tryz.ntmps14
    go_wp2
    go_ret2
    exact ⟨rfl, Below.refl _ _⟩
def OfSays (M s : Int) (l : List UInt8) (c : Int) : Prop := ∀ w, Calls Tryz.prog 14 #[.int .i64 M, .int .i64 s] w fun e w' => e = .returned (.tuple #[.string ⟨l.toArray⟩, .int .i64 c]) ∧ Below w.heap.size w w'
def TwoSays (k : Nat) (a b : List UInt8) (l : List UInt8) : Prop := ∀ w, Calls Tryz.prog k #[.string ⟨a.toArray⟩, .string ⟨b.toArray⟩] w fun e w' => e = .returned (.tuple #[.string ⟨l.toArray⟩, .int .i64 0]) ∧ Below w.heap.size w w'
end Go.Proofs.YtkcogoibaodbeaaGreatDoor
