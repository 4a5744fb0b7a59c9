/- The number that a list of digits tells. No program in sight. -/
import Derived.Test.YtkcogoibaodbeaaGreatDoorTxtPure
import Derived.Test.YtkcogoibaodbeaaGreatDoorTimes
set_option linter.unusedVariables false
set_option linter.unusedSimpArgs false
namespace Go.Proofs.YtkcogoibaodbeaaGreatDoor
def isD (c : UInt8) : Bool := 48 ≤ c.toNat && c.toNat ≤ 57
def valD (l : List UInt8) : Nat := l.foldl (fun a c => a * 10 + (c.toNat - 48)) 0
theorem valD_from (l : List UInt8) (a : Nat) : l.foldl (fun a c => a * 10 + (c.toNat - 48)) a = a * 10 ^ l.length + valD l := by
  induction l generalizing a with
  | nil => simp [valD]
  | cons c l ih =>
    simp only [List.foldl_cons, valD]
    rw [ih, ih (0 * 10 + (c.toNat - 48)), List.length_cons, Nat.pow_succ, Nat.zero_mul, Nat.zero_add, Nat.add_mul, Nat.mul_assoc, Nat.mul_comm 10]
    omega
theorem valD_cons (c : UInt8) (l : List UInt8) : valD (c :: l) = (c.toNat - 48) * 10 ^ l.length + valD l := by
  have := valD_from l (0 * 10 + (c.toNat - 48))
  rw [Nat.zero_mul, Nat.zero_add] at this
  simp only [valD, List.foldl_cons, Nat.zero_mul, Nat.zero_add] at *
  exact this
theorem valD_append (a b : List UInt8) : valD (a ++ b) = valD a * 10 ^ b.length + valD b := by
  unfold valD; rw [List.foldl_append]; exact valD_from b _
theorem valD_lt {l : List UInt8} (h : l.all isD = true) : valD l < 10 ^ l.length := by
  induction l with
  | nil => simp [valD]
  | cons c l ih =>
    simp only [List.all_cons, Bool.and_eq_true, isD, decide_eq_true_eq] at h
    have := ih (by simpa [isD] using h.2)
    rw [valD_cons, List.length_cons, Nat.pow_succ]
    have h9 : (c.toNat - 48) * 10 ^ l.length ≤ 9 * 10 ^ l.length := Nat.mul_le_mul_right _ (by omega)
    omega
/-- One digit more on the left, in the cells. -/
theorem set_top {l : List UInt8} {c : UInt8} (h : l.all isD = true) (hc : isD c = true) (hl : l.length < 128) : (wcells (valD l)).setIfInBounds l.length (.int .u8 ((c.toNat - 48 : Nat) : Int)) = wcells (valD (c :: l)) := by
  have h1 := valD_lt h
  simp only [isD, Bool.and_eq_true, decide_eq_true_eq] at hc
  rw [set_dg _ _ _ (by omega) hl, dg_zero_of_lt h1, valD_cons]
  congr 1
  omega
end Go.Proofs.YtkcogoibaodbeaaGreatDoor
