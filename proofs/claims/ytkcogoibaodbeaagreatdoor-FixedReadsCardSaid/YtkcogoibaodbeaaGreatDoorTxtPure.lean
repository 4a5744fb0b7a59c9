/- A decimal's text, as a list of bytes. No program in sight. -/
import Derived.Test.YtkcogoibaodbeaaGreatDoorPure
set_option linter.unusedVariables false
set_option linter.unusedSimpArgs false
namespace Go.Proofs.YtkcogoibaodbeaaGreatDoor
/-- The byte of a digit. -/
def chr (d : Nat) : UInt8 := UInt8.ofNat (48 + d)
/-- The digits of the places i - 1 to 0, with a point before the last s ones. -/
def txtBody (u s : Nat) : Nat → List UInt8
  | 0 => []
  | i + 1 => chr (dg u i) :: (if i = s ∧ 0 < i then 46 :: txtBody u s i else txtBody u s i)
/-- How many digits are written. -/
def txtLen (u s : Nat) : Nat := max (dl u) (s + 1)
/-- A decimal's text. -/
def txt (neg : Bool) (u s : Nat) : List UInt8 := (if neg && !(u == 0) then [45] else []) ++ txtBody u s (txtLen u s)
theorem txtBody_ne (u s i : Nat) : txtBody u s (i + 1) ≠ [] := by simp [txtBody]
theorem txtLen_pos (u s : Nat) : 1 ≤ txtLen u s := by unfold txtLen; omega
theorem txt_ne (neg : Bool) (u s : Nat) : txt neg u s ≠ [] := by
  unfold txt
  obtain ⟨i, hi⟩ : ∃ i, txtLen u s = i + 1 := ⟨txtLen u s - 1, by have := txtLen_pos u s; omega⟩
  rw [hi]
  simp [txtBody]
theorem txtBody_length (u s i : Nat) : (txtBody u s i).length ≤ 2 * i := by
  induction i with
  | zero => simp [txtBody]
  | succ i ih => simp only [txtBody]; split <;> simp <;> omega
end Go.Proofs.YtkcogoibaodbeaaGreatDoor
