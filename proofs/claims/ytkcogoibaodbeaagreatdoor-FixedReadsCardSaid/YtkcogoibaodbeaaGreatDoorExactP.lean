/- The plain law of FixedExact: decimals as signed numbers. -/
import Derived.Test.YtkcogoibaodbeaaGreatDoorExactW
set_option linter.unusedVariables false
set_option linter.unusedSimpArgs false
namespace Go.Proofs.YtkcogoibaodbeaaGreatDoor
open Go.RowKit
def sv (neg : Bool) (u : Nat) : Int := if neg then -(u : Int) else u
theorem plusN_sv (na : Bool) (a : Nat) (nb : Bool) (b : Nat) : sv (plusN na a nb b).1 (plusN na a nb b).2 = sv na a + sv nb b := by
  unfold plusN sv
  split
  · subst_vars; dsimp only; split <;> omega
  · split <;> (dsimp only; rcases na <;> rcases nb <;> simp at * <;> omega)
theorem txt_sv {n1 n2 : Bool} {u1 u2 : Nat} (s : Nat) (h : sv n1 u1 = sv n2 u2) : txt n1 u1 s = txt n2 u2 s := by
  have hu : u1 = u2 := by unfold sv at h; rcases n1 <;> rcases n2 <;> simp at h <;> omega
  subst hu
  rcases Nat.eq_zero_or_pos u1 with h0 | h0
  · subst h0; unfold txt; simp
  · have : n1 = n2 := by unfold sv at h; rcases n1 <;> rcases n2 <;> simp at h <;> first | rfl | omega
    rw [this]
theorem sv_zero {n : Bool} {u : Nat} (h : sv n u = 0) : u = 0 := by unfold sv at h; rcases n <;> simp at h <;> omega
theorem scU_self (u s : Nat) : scU u s s = u := by unfold scU; rw [if_neg (by omega), Nat.sub_self, Nat.pow_zero, Nat.mul_one]
theorem fitted_id (neg : Bool) {u s : Nat} (h : dl u ≤ 31) (hs : s ≤ 31) : fittedR neg u s = (txt neg u s, 0) := by
  have e : ftOut u s = 0 := by unfold ftOut; omega
  unfold fittedR ftS
  rw [e, Nat.zero_min, Nat.sub_zero, scU_self]
  exact if_pos h
/-- The sign that a text shows. -/
def sgn (neg : Bool) (u : Nat) : Bool := neg && !(u == 0)
theorem sv_sgn (neg : Bool) (u : Nat) : sv (sgn neg u) u = sv neg u := by
  unfold sv sgn
  rcases neg
  · simp
  · by_cases h : u = 0
    · subst h; simp
    · simp [h]
theorem good_sgn (neg : Bool) {u s : Nat} (h : dl u ≤ 31) (hs : s ≤ 31) : Good (sgn neg u) u s := ⟨h, hs, fun e => by unfold sgn at e; simp at e; exact e.2⟩
theorem txt_sgn (neg : Bool) (u s : Nat) : txt (sgn neg u) u s = txt neg u s := txt_sv s (sv_sgn neg u)
theorem scU_mul {u s t : Nat} (h : s ≤ t) (h10 : t ≤ 10) (hu : u < 10 ^ 10) : scU u s t < 10 ^ 20 := by
  rw [scU_up h]
  calc u * 10 ^ (t - s) < 10 ^ 10 * 10 ^ (t - s) := Nat.mul_lt_mul_of_pos_right hu (Nat.pow_pos (by decide))
    _ ≤ 10 ^ 10 * 10 ^ 10 := Nat.mul_le_mul_left _ (Nat.pow_le_pow_right (by decide) (by omega))
theorem plusN_lt (na nb : Bool) {a b z : Nat} (ha : a < z) (hb : b < z) : (plusN na a nb b).2 < 2 * z := by
  unfold plusN
  split
  · dsimp only; omega
  · split <;> dsimp only <;> omega
theorem dl31 {u : Nat} (h : u < 10 ^ 31) : dl u ≤ 31 := (dl_le_iff u 31 (by decide)).2 h
end Go.Proofs.YtkcogoibaodbeaaGreatDoor
