/- Two numbers: alike, plus, minus, times. -/
import Derived.Test.YtkcogoibaodbeaaGreatDoorNum
import Derived.Test.YtkcogoibaodbeaaGreatDoorPlus
import Derived.Test.YtkcogoibaodbeaaGreatDoorMinus
import Derived.Test.YtkcogoibaodbeaaGreatDoorTimes
import Derived.Test.YtkcogoibaodbeaaGreatDoorCmp
set_option linter.unusedVariables false
set_option linter.unusedSimpArgs false
namespace Go.Proofs.YtkcogoibaodbeaaGreatDoor
open Go.RowKit
attribute [local irreducible] ncells wcells
set_option maxRecDepth 100000 in
set_option maxHeartbeats 1000000 in
theorem alike_any (na : Bool) (a sa : Nat) (nb : Bool) (b sb : Nat) (w : World) (ha : a < Big) (hb : b < Big) (hsa : sa < 128) (hsb : sb < 128) :
    Calls Tryz.prog 57 #[.agg (ncells na a sa), .agg (ncells nb b sb)] w fun e w' => e = .returned (.tuple #[.agg (ncells na (scU a sa (max sa sb)) (max sa sb : Nat)), .agg (ncells nb (scU b sb (max sa sb)) (max sa sb : Nat))]) ∧ Below w.heap.size w w' := by
  have HA := Lib.hid ha
  have HB := Lib.hid hb
  clear ha hb
  obtain ⟨S, hS⟩ : ∃ S, max sa sb = S := ⟨_, rfl⟩
  have T0 := ((((Blk.nil w).lay rfl (ncells na a sa) 45).lay (by simp) (ncells nb b sb) 45).lay (by simp) (ncells false 0 0) 45).lay (by simp) (ncells false 0 0) 45
  have TD := T0.drew
  have hS1 : S < 128 := by omega
  rw [hS]
  have hm : max (sa : Int) (sb : Int) = (S : Int) := by omega
  have HS := Lib.hid hS
  clear hS
  go_enter Tryz.func57, Tryz.ntmps57
  go_wp2
  have r0 : rowOf _ (w.heap.size) = _ := T0.row 0 _ rfl
  have r1 : rowOf _ (w.heap.size + 1) = _ := T0.row 1 _ rfl
  go_region_with (go_at_call 44; refine (scaled_any _ _ _ S _ (by first | exact HA.out | exact HB.out) (by assumption) hS1).mono ?_; rintro e w' ⟨rfl, hbk⟩; have T5 := Blk.kept (by assumption) hbk; clear hbk; have r0 : rowOf _ (w.heap.size) = _ := T5.row 0 _ rfl; have r1 : rowOf _ (w.heap.size + 1) = _ := T5.row 1 _ rfl; have r2 : rowOf _ (w.heap.size + 1 + 1) = _ := T5.row 2 _ rfl; have r3 : rowOf _ (w.heap.size + 1 + 1 + 1) = _ := T5.row 3 _ rfl; have f2 : freeOf _ (w.heap.size + 1 + 1) = _ := T5.fr 2 rfl; have f3 : freeOf _ (w.heap.size + 1 + 1 + 1) = _ := T5.fr 3 rfl)
  all_goals (go_wp2; refine ret_row2 (b := w.heap.size + 1 + 1) (b' := w.heap.size + 1 + 1 + 1) (C := ncells na (scU a sa S) S) (C' := ncells nb (scU b sb S) S) rfl rtNum rtNum rfl rfl (by go_simp) (by go_simp) (by simp) (by simp) ⟨rfl, ?_⟩; exact ((T5.below.putRow (by omega) _ _).putRow (by omega) _ _))
end Go.Proofs.YtkcogoibaodbeaaGreatDoor
