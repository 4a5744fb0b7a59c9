/- Div of two decimals' texts: said of the decimals. -/
import Derived.Test.YtkcogoibaodbeaaGreatDoorDiv
set_option linter.unusedVariables false
set_option linter.unusedSimpArgs false
namespace Go.Proofs.YtkcogoibaodbeaaGreatDoor
open Go.RowKit
attribute [local irreducible] ncells wcells txt
theorem scU_up {u s t : Nat} (h : s ≤ t) : scU u s t = u * 10 ^ (t - s) := by
  unfold scU; rw [if_neg (by omega)]
def divQ (a sa b sb t : Nat) : Nat := scU a sa (max sa sb) * 10 ^ t / scU b sb (max sa sb)
theorem div_yes (na : Bool) (a sa : Nat) (nb : Bool) (b sb t : Nat) (w : World) (ha : Good na a sa) (hb : Good nb b sb) (ht : t ≤ 31) (hb0 : b ≠ 0) :
    Calls Tryz.prog 26 #[.string ⟨(txt na a sa).toArray⟩, .string ⟨(txt nb b sb).toArray⟩, .int .i64 t] w fun e w' => e = .returned (.tuple #[.string ⟨(wholeR (!(na == nb)) (divQ a sa b sb t) t).1.toArray⟩, .int .i64 (wholeR (!(na == nb)) (divQ a sa b sb t) t).2]) ∧ Below w.heap.size w w' := by
  have fa := ha.s31
  have fb := hb.s31
  have hx := sc_lt (s := sa) (t := max sa sb) ha.u31 (by omega)
  have hy := sc_lt (s := sb) (t := max sa sb) hb.u31 (by omega)
  have h1 : scU a sa (max sa sb) * 10 ^ t < Big := by
    refine Nat.lt_of_lt_of_le (Nat.mul_lt_mul_of_lt_of_le hx (Nat.pow_le_pow_right (by decide) ht) (Nat.pow_pos (by decide))) ?_
    rw [← Nat.pow_add]; exact ten_big (by decide)
  have h2 : scU b sb (max sa sb) * 10 ≤ Big := by
    refine Nat.le_trans (Nat.mul_le_mul_right 10 (Nat.le_of_lt hy)) ?_
    rw [← Nat.pow_succ]; exact ten_big (by decide)
  have h3 : 0 < scU b sb (max sa sb) := by
    rw [scU_up (by omega)]
    exact Nat.mul_pos (by omega) (Nat.pow_pos (by decide))
  exact div_two na a sa nb b sb t w ha hb ht hb0 _ _ (max sa sb) h1 h2 h3 (Nat.lt_of_le_of_lt (Nat.div_le_self _ _) h1)
    (fun w => alike_any na a sa nb b sb w ha.big hb.big (by omega) (by omega))
end Go.Proofs.YtkcogoibaodbeaaGreatDoor
