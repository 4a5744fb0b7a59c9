/- awake. -/
import Derived.Test.YtkcogoibaodbeaaGreatDoorDivY
import Derived.Test.YtkcogoibaodbeaaGreatDoorPack
import Derived.Test.YtkcogoibaodbeaaGreatDoorCompare
import Derived.Test.YtkcogoibaodbeaaGreatDoorOf
set_option linter.unusedVariables false
set_option linter.unusedSimpArgs false
namespace Go.Proofs.YtkcogoibaodbeaaGreatDoor
open Go.RowKit
theorem goodB {neg : Bool} {u s : Nat} (h : (decide (dl u ≤ 31) && decide (s ≤ 31) && (!neg || decide (u ≠ 0))) = true) : Good neg u s := by
  simp only [Bool.and_eq_true, decide_eq_true_eq, Bool.or_eq_true, Bool.not_eq_true'] at h
  exact ⟨h.1.1, h.1.2, fun hn => h.2.resolve_left (by rw [hn]; decide)⟩
theorem aw_add (w : World) : Calls Tryz.prog 24 #[.string ⟨#[49, 46, 50, 53]⟩, .string ⟨#[48, 46, 53]⟩] w fun e w' => e = .returned (.tuple #[.string ⟨#[49, 46, 55, 53]⟩, .int .i64 0]) ∧ Below w.heap.size w w' := by
  have h := add_yes false 125 2 false 5 1 w (goodB (by kernel_rfl)) (goodB (by kernel_rfl))
  rw [show txt false 125 2 = [49, 46, 50, 53] by kernel_rfl, show txt false 5 1 = [48, 46, 53] by kernel_rfl, show fittedR (numPlus false 125 2 false 5 1).1 (numPlus false 125 2 false 5 1).2 (max 2 1) = ([49, 46, 55, 53], 0) by kernel_rfl] at h
  exact h
theorem aw_mul (w : World) : Calls Tryz.prog 25 #[.string ⟨#[49, 46, 50, 53]⟩, .string ⟨#[48, 46, 53]⟩] w fun e w' => e = .returned (.tuple #[.string ⟨#[48, 46, 54, 50, 53]⟩, .int .i64 0]) ∧ Below w.heap.size w w' := by
  have h := mul_yes false 125 2 false 5 1 w (goodB (by kernel_rfl)) (goodB (by kernel_rfl))
  rw [show txt false 125 2 = [49, 46, 50, 53] by kernel_rfl, show txt false 5 1 = [48, 46, 53] by kernel_rfl, show fittedR (!(false == false)) (125 * 5) (2 + 1) = ([48, 46, 54, 50, 53], 0) by kernel_rfl] at h
  exact h
theorem aw_div (w : World) : Calls Tryz.prog 26 #[.string ⟨#[49]⟩, .string ⟨#[51]⟩, .int .i64 3] w fun e w' => e = .returned (.tuple #[.string ⟨#[48, 46, 51, 51, 51]⟩, .int .i64 0]) ∧ Below w.heap.size w w' := by
  have h := div_yes false 1 0 false 3 0 3 w (goodB (by kernel_rfl)) (goodB (by kernel_rfl)) (by decide) (by decide)
  rw [show txt false 1 0 = [49] by kernel_rfl, show txt false 3 0 = [51] by kernel_rfl, show wholeR (!(false == false)) (divQ 1 0 3 0 3) 3 = ([48, 46, 51, 51, 51], 0) by kernel_rfl] at h
  exact h
theorem aw_pack (w : World) : Calls Tryz.prog 27 #[.string ⟨#[45, 49, 50, 46, 53]⟩, .int .i64 4, .int .i64 1] w fun e w' => e = .returned (.tuple #[.string ⟨#[0, 18, 93]⟩, .int .i64 0]) ∧ Below w.heap.size w w' := by
  have h := pack_neg 125 1 1 4 w (goodB (by kernel_rfl)) (goodB (by kernel_rfl)) (by decide) (by decide) (by decide) (of_decide_eq_true (by kernel_rfl))
  rw [show txt true 125 1 = [45, 49, 50, 46, 53] by kernel_rfl, show packB (scU 125 1 1) 13 (4 / 2 + 1) = [0, 18, 93] by kernel_rfl] at h
  exact h
set_option maxRecDepth 100000 in
set_option maxHeartbeats 1000000 in
theorem awake_any (w : World) : Calls Tryz.prog 5 #[] w fun e w' => e = .returned (.bool true) ∧ Below w.heap.size w w' := by
  go_enter Tryz.func5, Tryz.ntmps5
  go_wp2_with (first
    | (go_at_call 24; refine (aw_add _).mono ?_; rintro e w1 ⟨rfl, hb⟩; have K1 := (Blk.nil w).kept hb; clear hb)
    | (go_at_call 25; refine (aw_mul _).mono ?_; rintro e w2 ⟨rfl, hb⟩; have K2 := K1.kept hb; clear hb)
    | (go_at_call 26; refine (aw_div _).mono ?_; rintro e w3 ⟨rfl, hb⟩; have K3 := K2.kept hb; clear hb)
    | (go_at_call 27; refine (aw_pack _).mono ?_; rintro e w4 ⟨rfl, hb⟩; have K4 := K3.kept hb; clear hb))
  go_ret
  exact ⟨rfl, K4.below⟩
end Go.Proofs.YtkcogoibaodbeaaGreatDoor
