/- wide.zero -/
import Derived.Test.YtkcogoibaodbeaaGreatDoorTypes
import Derived.ChangeKeysEq
import Derived.Laws.StructEq
set_option linter.unusedVariables false
set_option linter.unusedSimpArgs false
namespace Go.Proofs.YtkcogoibaodbeaaGreatDoor
open Go.RowKit
theorem run_items (d m n : Nat) (w : World) : ∀ (is : List Nat), (∀ i ∈ is, i < 128) →
    (Op.eqItems (d + 1) 5 1 (wcells m) (wcells n) is).run Tryz.prog w = .ok (is.all fun i => dg m i == dg n i) w
  | [], _ => by simp [Op.eqItems]
  | i :: is, h => by
    have hi : i < 128 := h i (by simp)
    have p1 := fun k => run_part_plain (P := Tryz.prog) (w := w) (e := 5) (by kernel_rfl) (xs := wcells k) (off := i * 1) (by rw [Nat.mul_one]; exact wcells_get k i hi)
    have ih := run_items d m n w is (fun j hj => h j (by simp [hj]))
    simp only [Op.eqItems, Sem.run_bind, p1, Result.andThen_ok, run_equalIn_int w d _ .u8 .u8 _ _ Tryz.underlying5, List.all_cons]
    by_cases e : dg m i = dg n i
    · simp [e, ih]
    · simp [e, show ¬ ((dg m i : Int) = dg n i) by omega]
theorem run_eql_wide (m n : Nat) (w : World) : (Op.equalIn 10000 41 (.agg (wcells m)) (.agg (wcells n))).run Tryz.prog w = .ok ((List.range 128).all fun i => dg m i == dg n i) w := by
  have hi : ∃ i, Tryz.prog.info? 5 = some i := by
    cases h : Tryz.prog.info? 5 with
    | none => exact absurd (h ▸ (show (Tryz.prog.info? 5).isSome = true by kernel_rfl)) (by decide)
    | some i => exact ⟨i, rfl⟩
  obtain ⟨i, hi⟩ := hi
  rw [show (10000 : Nat) = 9999 + 1 from rfl, run_equalIn_array w 9999 (wcells m) (wcells n) Tryz.underlying41 hi]
  rw [show Tryz.prog.cellsOf 5 = 1 by kernel_rfl]
  exact run_items 9998 m n w _ (fun j hj => by simpa using hj)
theorem eql_wide_of {m n : Nat} (hm : m < Big) (hn : n < Big) : ((List.range 128).all fun i => dg m i == dg n i) = (m == n) := by
  by_cases h : m = n
  · subst h; simp
  · rw [show (m == n) = false by simpa using h]
    rw [Bool.eq_false_iff]
    intro hall
    refine h (eq_of_dg_lt (k := 128) hm hn fun i hi => ?_)
    have := (List.all_eq_true.1 hall) i (by simpa using hi)
    simpa using this
set_option maxHeartbeats 400000 in
theorem zero_any (n : Nat) (w : World) (hn : n < Big) :
    Calls Tryz.prog 56 #[.agg (wcells n)] w fun e w' => e = .returned (.bool (n == 0)) ∧ Below w.heap.size w w' := by
  have hb := fun w => run_eql_wide n 0 w
  rw [eql_wide_of hn (by unfold Big; exact Nat.pow_pos (by decide))] at hb
  clear hn
  have hbuild : ∀ w, (Instr.build 41 #[]).run Tryz.prog w = .ok (.agg (wcells 0)) w := fun w => by kernel_rfl
  go_enter Tryz.func56, Tryz.ntmps56
  go_wp2
  go_ret
  exact ⟨rfl, (Below.refl _ _).alloc (Nat.le_refl _) _⟩
end Go.Proofs.YtkcogoibaodbeaaGreatDoor
