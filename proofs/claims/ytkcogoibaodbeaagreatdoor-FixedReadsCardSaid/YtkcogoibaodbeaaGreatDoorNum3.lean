/- number.plus. -/
import Derived.Test.YtkcogoibaodbeaaGreatDoorNum2
set_option linter.unusedVariables false
set_option linter.unusedSimpArgs false
namespace Go.Proofs.YtkcogoibaodbeaaGreatDoor
open Go.RowKit
attribute [local irreducible] ncells wcells
theorem cmpOf_nonneg {a b : Nat} (h : b ≤ a) : 0 ≤ cmpOf a b := by
  have : ¬ a < b := by omega
  unfold cmpOf
  rw [if_neg this]
  split <;> decide
theorem cmpOf_neg {a b : Nat} (h : a < b) : cmpOf a b < 0 := by
  unfold cmpOf
  rw [if_pos h]
  decide
/-- What plus tells: the sign and the digits at the greater scale. -/
def plusN (na : Bool) (a : Nat) (nb : Bool) (b : Nat) : Bool × Nat :=
  if na = nb then (na, a + b) else if b ≤ a then (na, a - b) else (nb, b - a)
def numPlus (na : Bool) (a sa : Nat) (nb : Bool) (b sb : Nat) : Bool × Nat := plusN na (scU a sa (max sa sb)) nb (scU b sb (max sa sb))
set_option maxRecDepth 100000 in
set_option maxHeartbeats 2000000 in
theorem numplus_any (na : Bool) (a sa : Nat) (nb : Bool) (b sb : Nat) (w : World) (ha : a < Big) (hb : b < Big) (hsa : sa < 128) (hsb : sb < 128) (h1 : scU a sa (max sa sb) < Big) (h2 : scU b sb (max sa sb) < Big) :
    Calls Tryz.prog 54 #[.agg (ncells na a sa), .agg (ncells nb b sb)] w fun e w' => e = .returned (.agg (ncells (numPlus na a sa nb b sb).1 (numPlus na a sa nb b sb).2 (max sa sb : Nat))) ∧ Below w.heap.size w w' := by
  have HA := Lib.hid ha
  have HB := Lib.hid hb
  have H1 := Lib.hid h1
  have H2 := Lib.hid h2
  clear ha hb h1 h2
  have T0 := (((Blk.nil w).lay rfl (ncells na a sa) 45).lay (by simp) (ncells nb b sb) 45).lay (by simp) (ncells false 0 0) 45
  by_cases hn : na = nb
  · have e : numPlus na a sa nb b sb = (na, (scU a sa (max sa sb)) + (scU b sb (max sa sb))) := by simp [numPlus, plusN, hn]
    rw [e]
    clear e
    dsimp only
    subst hn
    go_enter Tryz.func54, Tryz.ntmps54
    go_wp2_with (first | (go_at_call 57; refine (alike_any na a sa na b sb _ HA.out HB.out hsa hsb).mono ?_; rintro e w1 ⟨rfl, hb⟩; have T1 := T0.kept hb; clear hb; have X1 := ((Blk.nil w1).lay rfl (ncells na (scU a sa (max sa sb)) (max sa sb : Nat)) 45).lay (by simp) (ncells na (scU b sb (max sa sb)) (max sa sb : Nat)) 45; have T2 := (T1.more (.cells (ncells na (scU a sa (max sa sb)) (max sa sb : Nat)) 45)).more (.cells (ncells na (scU b sb (max sa sb)) (max sa sb : Nat)) 45); have TL := T1.le; simp only [List.length_append, List.length_cons, List.length_nil] at TL; have n1 : w.heap.size + 1 + 1 ≠ w1.heap.size := (by omega); have n2 : w.heap.size + 1 + 1 ≠ w1.heap.size + 1 := (by omega); have n5 : w.heap.size + 1 ≠ w1.heap.size := (by omega); have n6 := Ne.symm n5; have n3 := Ne.symm n1; have n4 := Ne.symm n2) | (go_at_call 75; refine (plus_any _ _ _).mono ?_; rintro e w2 ⟨rfl, hb⟩; have X2 := X1.kept hb; have T3 := T2.kept hb; clear hb; have x0 : rowOf _ (w1.heap.size) = _ := X2.row 0 _ rfl; have x1 : rowOf _ (w1.heap.size + 1) = _ := X2.row 1 _ rfl; have g0 : freeOf _ (w1.heap.size) = _ := X2.fr 0 rfl; have g1 : freeOf _ (w1.heap.size + 1) = _ := X2.fr 1 rfl; have r2 : rowOf _ (w.heap.size + 1 + 1) = _ := T3.row 2 _ rfl; have f2 : freeOf _ (w.heap.size + 1 + 1) = _ := T3.fr 2 rfl))
    refine ret_row (b := w.heap.size + 1 + 1) (C := ncells na ((scU a sa (max sa sb)) + (scU b sb (max sa sb))) (max sa sb : Nat)) rfl rtNum rfl (by go_simp) (by simp) ⟨rfl, ?_⟩
    exact ((T3.putOther _ _ _ (by simp only [List.length_append, List.length_cons, List.length_nil]; omega)).below.putRow (by omega) _ _)
  · have hn1 : (na == nb) = false := by simpa using hn
    by_cases hl : (scU b sb (max sa sb)) ≤ (scU a sa (max sa sb))
    · have e : numPlus na a sa nb b sb = (na, (scU a sa (max sa sb)) - (scU b sb (max sa sb))) := by simp [numPlus, plusN, hn, hl]
      rw [e]
      clear e
      dsimp only
      have HL := Lib.hid hl
      have c1 : 0 ≤ cmpOf (scU a sa (max sa sb)) (scU b sb (max sa sb)) := cmpOf_nonneg hl
      clear hl
      go_enter Tryz.func54, Tryz.ntmps54
      go_wp2_with (first | (go_at_call 57; refine (alike_any na a sa nb b sb _ HA.out HB.out hsa hsb).mono ?_; rintro e w1 ⟨rfl, hb⟩; have T1 := T0.kept hb; clear hb; have X1 := ((Blk.nil w1).lay rfl (ncells na (scU a sa (max sa sb)) (max sa sb : Nat)) 45).lay (by simp) (ncells nb (scU b sb (max sa sb)) (max sa sb : Nat)) 45; have T2 := (T1.more (.cells (ncells na (scU a sa (max sa sb)) (max sa sb : Nat)) 45)).more (.cells (ncells nb (scU b sb (max sa sb)) (max sa sb : Nat)) 45); have TL := T1.le; simp only [List.length_append, List.length_cons, List.length_nil] at TL; have n1 : w.heap.size + 1 + 1 ≠ w1.heap.size := (by omega); have n2 : w.heap.size + 1 + 1 ≠ w1.heap.size + 1 := (by omega); have n5 : w.heap.size + 1 ≠ w1.heap.size := (by omega); have n6 := Ne.symm n5; have n3 := Ne.symm n1; have n4 := Ne.symm n2) | (go_at_call 76; refine (compare_any _ _ _ (by first | exact H1.out | exact H2.out) (by first | exact H1.out | exact H2.out)).mono ?_; rintro e w2 ⟨rfl, hb⟩; have X2 := X1.kept hb; have T3 := T2.kept hb; clear hb; have x0 : rowOf _ (w1.heap.size) = _ := X2.row 0 _ rfl; have x1 : rowOf _ (w1.heap.size + 1) = _ := X2.row 1 _ rfl; have g0 : freeOf _ (w1.heap.size) = _ := X2.fr 0 rfl; have g1 : freeOf _ (w1.heap.size + 1) = _ := X2.fr 1 rfl; have r2 : rowOf _ (w.heap.size + 1 + 1) = _ := T3.row 2 _ rfl; have f2 : freeOf _ (w.heap.size + 1 + 1) = _ := T3.fr 2 rfl) | (go_at_call 77; refine (minus_any _ _ _ (by exact HL.out)).mono ?_; rintro e w3 ⟨rfl, hb⟩; have X3 := X2.kept hb; have T4 := T3.kept hb; clear hb; have x0 : rowOf _ (w1.heap.size) = _ := X3.row 0 _ rfl; have x1 : rowOf _ (w1.heap.size + 1) = _ := X3.row 1 _ rfl; have g0 : freeOf _ (w1.heap.size) = _ := X3.fr 0 rfl; have g1 : freeOf _ (w1.heap.size + 1) = _ := X3.fr 1 rfl; have r2 : rowOf _ (w.heap.size + 1 + 1) = _ := T4.row 2 _ rfl; have f2 : freeOf _ (w.heap.size + 1 + 1) = _ := T4.fr 2 rfl))
      refine ret_row (b := w.heap.size + 1 + 1) (C := ncells na ((scU a sa (max sa sb)) - (scU b sb (max sa sb))) (max sa sb : Nat)) rfl rtNum rfl (by go_simp) (by simp) ⟨rfl, ?_⟩
      exact ((T4.putOther _ _ _ (by simp only [List.length_append, List.length_cons, List.length_nil]; omega)).below.putRow (by omega) _ _)
    · have e : numPlus na a sa nb b sb = (nb, (scU b sb (max sa sb)) - (scU a sa (max sa sb))) := by simp [numPlus, plusN, hn, hl]
      rw [e]
      clear e
      dsimp only
      have HL := Lib.hid (show (scU a sa (max sa sb)) ≤ (scU b sb (max sa sb)) by omega)
      have c0 : cmpOf (scU a sa (max sa sb)) (scU b sb (max sa sb)) < 0 := cmpOf_neg (by omega)
      have c1 : ¬ 0 ≤ cmpOf (scU a sa (max sa sb)) (scU b sb (max sa sb)) := by omega
      clear hl
      go_enter Tryz.func54, Tryz.ntmps54
      go_wp2_with (first | (go_at_call 57; refine (alike_any na a sa nb b sb _ HA.out HB.out hsa hsb).mono ?_; rintro e w1 ⟨rfl, hb⟩; have T1 := T0.kept hb; clear hb; have X1 := ((Blk.nil w1).lay rfl (ncells na (scU a sa (max sa sb)) (max sa sb : Nat)) 45).lay (by simp) (ncells nb (scU b sb (max sa sb)) (max sa sb : Nat)) 45; have T2 := (T1.more (.cells (ncells na (scU a sa (max sa sb)) (max sa sb : Nat)) 45)).more (.cells (ncells nb (scU b sb (max sa sb)) (max sa sb : Nat)) 45); have TL := T1.le; simp only [List.length_append, List.length_cons, List.length_nil] at TL; have n1 : w.heap.size + 1 + 1 ≠ w1.heap.size := (by omega); have n2 : w.heap.size + 1 + 1 ≠ w1.heap.size + 1 := (by omega); have n5 : w.heap.size + 1 ≠ w1.heap.size := (by omega); have n6 := Ne.symm n5; have n3 := Ne.symm n1; have n4 := Ne.symm n2) | (go_at_call 76; refine (compare_any _ _ _ (by first | exact H1.out | exact H2.out) (by first | exact H1.out | exact H2.out)).mono ?_; rintro e w2 ⟨rfl, hb⟩; have X2 := X1.kept hb; have T3 := T2.kept hb; clear hb; have x0 : rowOf _ (w1.heap.size) = _ := X2.row 0 _ rfl; have x1 : rowOf _ (w1.heap.size + 1) = _ := X2.row 1 _ rfl; have g0 : freeOf _ (w1.heap.size) = _ := X2.fr 0 rfl; have g1 : freeOf _ (w1.heap.size + 1) = _ := X2.fr 1 rfl; have r2 : rowOf _ (w.heap.size + 1 + 1) = _ := T3.row 2 _ rfl; have f2 : freeOf _ (w.heap.size + 1 + 1) = _ := T3.fr 2 rfl) | (go_at_call 77; refine (minus_any _ _ _ (by exact HL.out)).mono ?_; rintro e w3 ⟨rfl, hb⟩; have X3 := X2.kept hb; have T4 := T3.kept hb; clear hb; have x0 : rowOf _ (w1.heap.size) = _ := X3.row 0 _ rfl; have x1 : rowOf _ (w1.heap.size + 1) = _ := X3.row 1 _ rfl; have g0 : freeOf _ (w1.heap.size) = _ := X3.fr 0 rfl; have g1 : freeOf _ (w1.heap.size + 1) = _ := X3.fr 1 rfl; have r2 : rowOf _ (w.heap.size + 1 + 1) = _ := T4.row 2 _ rfl; have f2 : freeOf _ (w.heap.size + 1 + 1) = _ := T4.fr 2 rfl))
      refine ret_row (b := w.heap.size + 1 + 1) (C := ncells nb ((scU b sb (max sa sb)) - (scU a sa (max sa sb))) (max sa sb : Nat)) rfl rtNum rfl (by go_simp) (by simp) ⟨rfl, ?_⟩
      exact ((T4.putOther _ _ _ (by simp only [List.length_append, List.length_cons, List.length_nil]; omega)).below.putRow (by omega) _ _)
end Go.Proofs.YtkcogoibaodbeaaGreatDoor
