/- wide.left and wide.right -/
import Derived.Test.YtkcogoibaodbeaaGreatDoorTypes
import Derived.RegionTactic
import Derived.BigRegion
import Derived.ChangeAlike
set_option linter.unusedVariables false
set_option linter.unusedSimpArgs false
namespace Go.Proofs.YtkcogoibaodbeaaGreatDoor
open Go.RowKit
set_option maxHeartbeats 400000 in
theorem left_any (n k : Nat) (w : World) (hk : k < 128) :
    Calls Tryz.prog 58 #[.agg (wcells n), .int .i64 k] w fun e w' => e = .returned (.agg (wcells (n * 10 ^ k))) ∧ Below w.heap.size w w' := by
  have h1 : (0 : Int) ≤ 128 - (k : Int) := by omega
  have h2 : (128 : Int) - (k : Int) ≤ 128 := by omega
  have h3 : (k : Int) ≤ 128 := by omega
  have h4 : ¬ 128 = k := by omega
  have h5 : (128 - (k : Int)).toNat = 128 - k := by omega
  have h6 : k + (128 - k) = 128 := by omega
  have h7 := splice_left n k hk
  go_enter Tryz.func58, Tryz.ntmps58
  go_wp2
  go_region
  go_wp2
  refine ret_row (b := w.heap.size + 1) (C := wcells (n * 10 ^ k)) rfl rtWide rfl (by go_simp) (by simp) ⟨rfl, ?_⟩
  exact ((((Below.refl _ _).alloc (Nat.le_refl _) _).alloc (by simp) _).alloc (by simp; omega) _).drew
set_option maxHeartbeats 400000 in
theorem right_any (n k : Nat) (w : World) (hk : k < 128) (hn : n < Big) :
    Calls Tryz.prog 73 #[.agg (wcells n), .int .i64 k] w fun e w' => e = .returned (.agg (wcells (n / 10 ^ k))) ∧ Below w.heap.size w w' := by
  have h3 : (k : Int) ≤ 128 := by omega
  have h4 : ¬ 128 = k := by omega
  have h5 : 128 - k ≤ 128 := by omega
  have h6 : k + (128 - k) = 128 := by omega
  have h7 := splice_right n k hk hn
  have h8 : min (k : Int) 128 = k := by omega
  clear hn
  go_enter Tryz.func73, Tryz.ntmps73
  go_wp2
  go_region
  go_wp2
  refine ret_row (b := w.heap.size + 1) (C := wcells (n / 10 ^ k)) rfl rtWide rfl (by go_simp) (by simp) ⟨rfl, ?_⟩
  exact ((((Below.refl _ _).alloc (Nat.le_refl _) _).alloc (by simp) _).alloc (by simp; omega) _).drew
end Go.Proofs.YtkcogoibaodbeaaGreatDoor
