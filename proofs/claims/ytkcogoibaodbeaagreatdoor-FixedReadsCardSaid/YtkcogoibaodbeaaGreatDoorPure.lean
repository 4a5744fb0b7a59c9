/- Plain facts on decimal digits: a number's digits, how many they are. No program in sight. -/
import Derived.WalkKit
import Derived.Laws.Rows
set_option linter.unusedVariables false
set_option linter.unusedSimpArgs false
namespace Go.Proofs.YtkcogoibaodbeaaGreatDoor
/-- The digit of the place i. -/
def dg (n i : Nat) : Nat := n / 10 ^ i % 10
theorem dg_lt (n i : Nat) : dg n i < 10 := Nat.mod_lt _ (by decide)
/-- What 128 digits hold. -/
def Big : Nat := 10 ^ 128
/-- How many digits a number has; 1 for 0. -/
def dl (n : Nat) : Nat := if n < 10 then 1 else dl (n / 10) + 1
termination_by n
decreasing_by omega
theorem dl_lt10 {n : Nat} (h : n < 10) : dl n = 1 := by rw [dl]; simp [h]
theorem dl_step {n : Nat} (h : 10 ≤ n) : dl n = dl (n / 10) + 1 := by rw [dl]; simp [Nat.not_lt.2 h]
theorem dl_pos (n : Nat) : 1 ≤ dl n := by
  rw [dl]; split <;> omega
/-- n has i + 1 digits if it lies between 10^i and 10^(i+1). -/
theorem dl_eq : ∀ (i n : Nat), 10 ^ i ≤ n → n < 10 ^ (i + 1) → dl n = i + 1
  | 0, n, _, h => by rw [dl_lt10 (by simpa using h)]
  | i + 1, n, h0, h => by
    have h10 : 10 ≤ n := by
      have : 10 ^ 1 ≤ 10 ^ (i + 1) := Nat.pow_le_pow_right (by decide) (by omega)
      omega
    rw [dl_step h10, dl_eq i (n / 10)]
    · rw [Nat.le_div_iff_mul_le (by decide)]; rw [Nat.pow_succ] at h0; exact h0
    · rw [Nat.div_lt_iff_lt_mul (by decide)]; rw [Nat.pow_succ] at h; exact h
/-- n is below 10^k just if it has at most k digits. -/
theorem dl_le_iff (n k : Nat) (hk : 1 ≤ k) : dl n ≤ k ↔ n < 10 ^ k := by
  induction k generalizing n with
  | zero => omega
  | succ k ih =>
    by_cases h : n < 10
    · rw [dl_lt10 h]
      have : 10 ^ 1 ≤ 10 ^ (k + 1) := Nat.pow_le_pow_right (by decide) (by omega)
      constructor <;> intro _ <;> omega
    · have h10 : 10 ≤ n := by omega
      rw [dl_step h10]
      rcases Nat.eq_zero_or_pos k with rfl | hk'
      · have := dl_pos (n / 10)
        simp only [Nat.zero_add, Nat.pow_one]
        constructor <;> intro _ <;> omega
      · have e := ih (n / 10) hk'
        rw [Nat.div_lt_iff_lt_mul (by decide), ← Nat.pow_succ] at e
        omega
theorem lt_pow_dl (n : Nat) : n < 10 ^ dl n := (dl_le_iff n (dl n) (dl_pos n)).1 (Nat.le_refl _)
theorem dg_zero_of_lt {n i : Nat} (h : n < 10 ^ i) : dg n i = 0 := by
  unfold dg; rw [Nat.div_eq_of_lt h]
/-- Below 10^(i+1), a digit i that is 0 tells below 10^i. -/
theorem lt_of_dg_zero {n i : Nat} (h : n < 10 ^ (i + 1)) (h0 : dg n i = 0) : n < 10 ^ i := by
  unfold dg at h0
  have hp : 0 < 10 ^ i := Nat.pow_pos (by decide)
  have h1 : n / 10 ^ i < 10 := by
    rw [Nat.div_lt_iff_lt_mul hp]; rw [Nat.pow_succ, Nat.mul_comm] at h; exact h
  rw [Nat.mod_eq_of_lt h1] at h0
  rcases Nat.lt_or_ge n (10 ^ i) with h | h
  · exact h
  · have := Nat.div_pos h hp; omega
theorem le_of_dg_pos {n i : Nat} (h0 : 0 < dg n i) : 10 ^ i ≤ n := by
  rcases Nat.lt_or_ge n (10 ^ i) with h | h
  · rw [dg_zero_of_lt h] at h0; omega
  · exact h
/-- The 128 cells of a number. -/
def wcells (n : Nat) : Array Value := ((List.range 128).map fun i => Value.int .u8 (dg n i)).toArray
@[simp] theorem wcells_size (n : Nat) : (wcells n).size = 128 := by simp [wcells]
theorem wcells_get (n i : Nat) (h : i < 128) : (wcells n)[i]? = some (.int .u8 (dg n i)) := by
  simp [wcells, h]
@[simp] theorem wcells_elem (n i : Nat) (h : i < (wcells n).size) : (wcells n)[i] = .int .u8 (dg n i) := by
  have := wcells_get n i (by simpa using h)
  rw [Array.getElem?_eq_getElem h] at this
  exact Option.some.inj this
theorem cell_alloc_wcells (w : World) (n t i : Nat) (h : i < 128) : (w.alloc (.cells (wcells n) t)).cell? ⟨w.heap.size, i, none⟩ = some (.int .u8 (dg n i)) := by
  rw [cell_of_row _ _ _ _ _ _ (heap_alloc_new w _)]; exact wcells_get n i h
theorem modp_succ (n k : Nat) : n % 10 ^ (k + 1) = n % 10 ^ k + 10 ^ k * dg n k := by
  rw [Nat.pow_succ, Nat.mod_mul]; rfl
/-- Numbers with the same digits below the place k are alike up to there. -/
theorem eq_of_dg {m n : Nat} : ∀ (k : Nat), (∀ i, i < k → dg m i = dg n i) → m % 10 ^ k = n % 10 ^ k
  | 0, _ => by simp [Nat.mod_one]
  | k + 1, h => by rw [modp_succ, modp_succ, eq_of_dg k (fun i hi => h i (by omega)), h k (by omega)]
theorem eq_of_dg_lt {m n k : Nat} (hm : m < 10 ^ k) (hn : n < 10 ^ k) (h : ∀ i, i < k → dg m i = dg n i) : m = n := by
  have := eq_of_dg k h
  rwa [Nat.mod_eq_of_lt hm, Nat.mod_eq_of_lt hn] at this
end Go.Proofs.YtkcogoibaodbeaaGreatDoor
