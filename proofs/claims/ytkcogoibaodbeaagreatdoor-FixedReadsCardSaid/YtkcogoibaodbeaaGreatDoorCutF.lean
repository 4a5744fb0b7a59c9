/- Cut. -/
import Derived.Test.YtkcogoibaodbeaaGreatDoorAsk
import Derived.Test.YtkcogoibaodbeaaGreatDoorNum
set_option linter.unusedVariables false
set_option linter.unusedSimpArgs false
namespace Go.Proofs.YtkcogoibaodbeaaGreatDoor
open Go.RowKit
attribute [local irreducible] ncells wcells txt
set_option maxRecDepth 100000 in
set_option maxHeartbeats 1000000 in
theorem cutc_any (na : Bool) (a sa t : Nat) (bk : Nat) (w : World) (ha : a < Big) (hs : sa ≤ 31) (ht : t ≤ 31) (hb0 : bk < w.heap.size) (hc : w.cell? ⟨bk, 0, none⟩ = some (.int .i64 t)) :
    Calls Tryz.prog 90 #[.agg (ncells na a sa), .pointer (some ⟨bk, 0, none⟩)] w fun e w' => e = .returned (.agg (ncells na (scU a sa t) t)) ∧ Below w.heap.size w w' := by
  have HA := Lib.hid ha
  clear ha
  have T0 := ((Blk.nil w).lay rfl (ncells na a sa) 45).lay (by simp) (ncells false 0 0) 45
  have c1 := (T0.below.cell (p := ⟨bk, 0, none⟩) hb0).trans hc
  go_enter Tryz.func90, Tryz.ntmps90
  go_wp2_with (go_at_call 44; refine (scaled_any _ _ _ t _ HA.out (by omega) (by omega)).mono ?_; rintro e w1 ⟨rfl, hb⟩; have T1 := T0.kept hb; clear hb; have r1 : rowOf _ (w.heap.size + 1) = _ := T1.row 1 _ rfl; have f1 : freeOf _ (w.heap.size + 1) = _ := T1.fr 1 rfl)
  refine ret_row (b := w.heap.size + 1) (C := ncells na (scU a sa t) t) rfl rtNum rfl (by go_simp) (by simp) ⟨rfl, ?_⟩
  exact T1.below.putRow (by omega) _ _
set_option maxRecDepth 100000 in
set_option maxHeartbeats 1000000 in
theorem one_cut (na : Bool) (a sa t : Nat) (bk : Nat) (w : World) (ha : Good na a sa) (ht : t ≤ 31) (hb0 : bk < w.heap.size) (hc : w.cell? ⟨bk, 0, none⟩ = some (.int .i64 t)) :
    Calls Tryz.prog 47 #[.string ⟨(txt na a sa).toArray⟩, .func (.func 90) #[] #[.pointer (some ⟨bk, 0, none⟩)]] w fun e w' => e = .returned (.tuple #[.string ⟨(wholeR na (scU a sa t) t).1.toArray⟩, .int .i64 (wholeR na (scU a sa t) t).2]) ∧ Below w.heap.size w w' := by
  have GA := Lib.hid ha
  have hs := ha.s31
  have HW := Lib.hid (ha.sc ht)
  clear ha
  go_enter Tryz.func47, Tryz.ntmps47
  go_wp2_with (first
    | (go_at_call 35; refine (parse_yes _ _ _ _ GA.out).mono ?_; rintro e w1 ⟨rfl, hb⟩; have K1 := (Blk.nil w).kept hb; have cc : w1.cell? ⟨bk, 0, none⟩ = some (.int .i64 t) := (hb.cell hb0).trans hc; clear hb; have X1 := (Blk.nil w1).lay rfl (ncells na a sa) 45; have lb : bk < w1.heap.size := Nat.lt_of_lt_of_le hb0 K1.size; have ca : (w1.alloc (.cells (ncells na a sa) 45)).cell? ⟨bk, 0, none⟩ = some (.int .i64 t) := (((Below.refl w1.heap.size w1).alloc (Nat.le_refl _) _).cell lb).trans cc; have la : bk < (w1.alloc (.cells (ncells na a sa) 45)).heap.size := (by simp; omega))
    | (go_at_call 90; refine (cutc_any na a sa t bk _ GA.out.big hs ht la ca).mono ?_; rintro e w2 ⟨rfl, hb⟩; have K2 := (K1.more _).kept hb; clear hb)
    | (go_at_call 60; refine (whole_any _ _ _ _ HW.out (by omega)).mono ?_; rintro e w3 ⟨rfl, hb⟩; have K3 := K2.kept hb; clear hb))
  go_ret2
  exact ⟨rfl, K3.below⟩
set_option maxRecDepth 100000 in
set_option maxHeartbeats 1000000 in
theorem cut_fn (na : Bool) (a sa t : Nat) (bk : Nat) (w : World) (ha : Good na a sa) (ht : t ≤ 31) (hb0 : bk < w.heap.size) (hc : w.cell? ⟨bk, 0, none⟩ = some (.int .i64 t)) :
    Calls Tryz.prog 89 #[.string ⟨(txt na a sa).toArray⟩, .int .i64 t, .func (.func 90) #[] #[.pointer (some ⟨bk, 0, none⟩)]] w fun e w' => e = .returned (.tuple #[.string ⟨(wholeR na (scU a sa t) t).1.toArray⟩, .int .i64 (wholeR na (scU a sa t) t).2]) ∧ Below w.heap.size w w' := by
  have GA := Lib.hid ha
  clear ha
  have t2 : ¬ (t : Int) < 0 := by omega
  have t3 : ¬ (31 : Int) < (t : Int) := by omega
  go_enter Tryz.func89, Tryz.ntmps89
  go_wp2_with (first
    | (go_at_call 8; refine (valid_yes _ _ _ _ GA.out).mono ?_; rintro e w1 ⟨rfl, hb⟩; have K1 := (Blk.nil w).kept hb; have cc : w1.cell? ⟨bk, 0, none⟩ = some (.int .i64 t) := (hb.cell hb0).trans hc; clear hb; have lb : bk < w1.heap.size := Nat.lt_of_lt_of_le hb0 K1.size)
    | (go_at_call 47; refine (one_cut _ _ _ t bk _ GA.out ht lb cc).mono ?_; rintro e w2 ⟨rfl, hb⟩; have K2 := K1.kept hb; clear hb))
  go_ret2
  exact ⟨rfl, K2.below⟩
set_option maxRecDepth 100000 in
set_option maxHeartbeats 1000000 in
theorem cut_yes (na : Bool) (a sa t : Nat) (w : World) (ha : Good na a sa) (ht : t ≤ 31) :
    Calls Tryz.prog 80 #[.string ⟨(txt na a sa).toArray⟩, .int .i64 t] w fun e w' => e = .returned (.tuple #[.string ⟨(wholeR na (scU a sa t) t).1.toArray⟩, .int .i64 (wholeR na (scU a sa t) t).2]) ∧ Below w.heap.size w w' := by
  have GA := Lib.hid ha
  clear ha
  have T0 := (Blk.nil w).lay rfl #[.int .i64 t] 3
  have la : w.heap.size < (w.alloc (.cells #[.int .i64 t] 3)).heap.size := by simp
  have ca : (w.alloc (.cells #[.int .i64 t] 3)).cell? ⟨w.heap.size, 0, none⟩ = some (.int .i64 t) := T0.cell 0 rfl 0
  go_enter Tryz.func80, Tryz.ntmps80
  go_wp2_with (go_at_call 89; refine (cut_fn _ _ _ t _ _ GA.out ht la ca).mono ?_; rintro e w1 ⟨rfl, hb⟩; have K1 := T0.kept hb; clear hb)
  go_ret2
  exact ⟨rfl, K1.below⟩
end Go.Proofs.YtkcogoibaodbeaaGreatDoor
