/- The references' Cut, Fits, To, Length. The references' To, Length, Round. The references' Round. -/
import Derived.Test.YtkcogoibaodbeaaGreatDoorRefJ
import Derived.Test.YtkcogoibaodbeaaGreatDoorAllD
set_option linter.unusedVariables false
set_option linter.unusedSimpArgs false
namespace Go.Proofs.YtkcogoibaodbeaaGreatDoor
open Go.RowKit
attribute [local irreducible] ds dd txt
theorem read_y {l : List UInt8} (w : World) (hl : l.length ≤ 500) (h : parseB l = true) :
    Calls Tryz.prog 36 #[.string ⟨l.toArray⟩] w fun e w' => e = .returned (.tuple #[.agg (rcells (negOf l) (uOf l) (sOf l)), .bool true]) ∧ Below w.heap.size w w' := by
  have := read_all l w hl
  rw [show readR l = #[.agg (rcells (negOf l) (uOf l) (sOf l)), .bool true] from if_pos h] at this
  exact this
theorem read_n {l : List UInt8} (w : World) (hl : l.length ≤ 500) (h : parseB l = false) :
    Calls Tryz.prog 36 #[.string ⟨l.toArray⟩] w fun e w' => e = .returned (.tuple #[.agg rzero, .bool false]) ∧ Below w.heap.size w w' := by
  have := read_all l w hl
  rw [show readR l = #[.agg rzero, .bool false] from if_neg (by rw [h]; decide)] at this
  exact this
theorem rscaled_any (t : Int) (w : World) :
    Calls Tryz.prog 41 #[.int .i64 t] w fun e w' => e = .returned (.bool (decide (0 ≤ t ∧ t ≤ 31))) ∧ w' = w := by
  by_cases h : 0 ≤ t ∧ t ≤ 31
  · rw [decide_eq_true h]
    obtain ⟨h1, h2⟩ := h
    go_enter Tryz.func41, Tryz.ntmps41
    go_wp2
    go_ret
    exact ⟨rfl, rfl⟩
  · rw [decide_eq_false h]
    rcases (show ¬ 0 ≤ t ∨ (0 ≤ t ∧ ¬ t ≤ 31) by omega) with h1 | ⟨h1, h2⟩
    all_goals
      clear h
      go_enter Tryz.func41, Tryz.ntmps41
      go_wp2
      go_ret
      exact ⟨rfl, rfl⟩
theorem Good.sdl {l : List UInt8} (h : parseB l = true) (t : Nat) (ht : t ≤ 31) : dl (scU (uOf l) (sOf l) t) ≤ 62 := by
  obtain ⟨g, _⟩ := parseB_good h
  exact dl_le_of (by decide) (sc_lt g.u31 ht)
end Go.Proofs.YtkcogoibaodbeaaGreatDoor
namespace Go.Proofs.YtkcogoibaodbeaaGreatDoor
open Go.RowKit
attribute [local go_sem] ByteArray.mk_append_mk ByteArray.extract_mk
theorem five_dd (k : Nat) : 53 :: dd 0 k = ds (5 * 10 ^ k) := by
  have h := dd_shift 5 1 k
  have h2 : dl (5 * 10 ^ k) = 1 + k := by rw [dl_shift k (by decide), dl_lt10 (by decide)]
  unfold ds
  rw [h2, ← h]
  rfl
theorem round_pure (u s t : Nat) (h : t < s) : (u + 5 * 10 ^ (s - t - 1)) / 10 ^ (s - t) = roundU u s t := by
  obtain ⟨k, hk⟩ : ∃ k, s - t - 1 = k := ⟨_, rfl⟩
  have e : s - t = k + 1 := by omega
  unfold roundU
  rw [scU_dn h, e, show k + 1 - 1 = k by omega, Nat.pow_succ, ← Nat.div_div_eq_div_mul, ← Nat.div_div_eq_div_mul, Nat.add_mul_div_right _ _ (Nat.pow_pos (by decide))]
  unfold dg
  by_cases h5 : 5 ≤ u / 10 ^ k % 10
  · rw [if_pos ⟨h, h5⟩]; omega
  · rw [if_neg (fun e => h5 e.2)]; omega
theorem round_cut (u s t : Nat) : (if t < s then scU (u + 5 * 10 ^ (s - t - 1)) s t else scU u s t) = roundU u s t := by
  by_cases h : t < s
  · rw [if_pos h, scU_dn h, round_pure u s t h]
  · rw [if_neg h]; unfold roundU; rw [if_neg (fun e => h e.1)]
attribute [local irreducible] ds dd txt
end Go.Proofs.YtkcogoibaodbeaaGreatDoor
namespace Go.Proofs.YtkcogoibaodbeaaGreatDoor
open Go.RowKit
attribute [local go_sem] ByteArray.mk_append_mk ByteArray.extract_mk
attribute [local irreducible] ds dd txt
end Go.Proofs.YtkcogoibaodbeaaGreatDoor
