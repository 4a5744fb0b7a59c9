/- Rem and Abs, and division by zero. -/
import Derived.Test.YtkcogoibaodbeaaGreatDoorDivY
import Derived.Test.YtkcogoibaodbeaaGreatDoorCutF
set_option linter.unusedVariables false
set_option linter.unusedSimpArgs false
namespace Go.Proofs.YtkcogoibaodbeaaGreatDoor
open Go.RowKit
attribute [local irreducible] ncells wcells txt
set_option maxRecDepth 100000 in
set_option maxHeartbeats 1000000 in
theorem div_zero (na : Bool) (a sa : Nat) (nb : Bool) (sb t : Nat) (w : World) (ha : Good na a sa) (hb : Good nb 0 sb) (ht : t ≤ 31) :
    Calls Tryz.prog 26 #[.string ⟨(txt na a sa).toArray⟩, .string ⟨(txt nb 0 sb).toArray⟩, .int .i64 t] w fun e w' => e = .returned (.tuple #[.string ⟨#[]⟩, .int .i64 7]) ∧ Below w.heap.size w w' := by
  obtain ⟨b, hb0⟩ : ∃ b, b = 0 := ⟨0, rfl⟩
  rw [← hb0] at hb ⊢
  have GA := Lib.hid ha
  have GB := Lib.hid hb
  have z1 : (b == 0) = true := by simpa using hb0
  have t2 : ¬ (t : Int) < 0 := by omega
  have t3 : ¬ (31 : Int) < (t : Int) := by omega
  clear ha hb hb0
  go_enter Tryz.func26, Tryz.ntmps26
  go_wp2_with (first
    | (go_at_call 35; have XX := X1; clear XX; refine (parse_yes _ _ _ _ GB.out).mono ?_; rintro e w2 ⟨rfl, hb⟩; have K2 := (K1.more _).kept hb; have X2 := X1.kept hb; clear hb; have r0 : rowOf _ (w1.heap.size) = _ := X2.row 0 _ rfl; have l0 : w1.heap.size < w2.heap.size := X2.lt 0 rfl; have n0 := Nat.ne_of_lt l0; have n1 := Ne.symm n0; have q0 : rowOf (w2.alloc (.cells (ncells nb b sb) 45)) (w1.heap.size) = ncells na a sa := (X2.more _).row 0 _ rfl)
    | (go_at_call 35; refine (parse_yes _ _ _ _ GA.out).mono ?_; rintro e w1 ⟨rfl, hb⟩; have K1 := (Blk.nil w).kept hb; clear hb; have X1 := (Blk.nil w1).lay rfl (ncells na a sa) 45)
    | (go_at_call 56; refine (zero_any _ _ GB.out.big).mono ?_; rintro e w3 ⟨rfl, hb⟩; have K3 := (K2.more _).kept hb; clear hb))
  go_ret2
  exact ⟨rfl, K3.below⟩
set_option maxRecDepth 100000 in
set_option maxHeartbeats 1000000 in
theorem absc_any (na : Bool) (a sa : Nat) (w : World) :
    Calls Tryz.prog 50 #[.agg (ncells na a sa)] w fun e w' => e = .returned (.agg (ncells false a sa)) ∧ Below w.heap.size w w' := by
  have T0 := ((Blk.nil w).lay rfl (ncells na a sa) 45).lay (by simp) (ncells false 0 0) 45
  go_enter Tryz.func50, Tryz.ntmps50
  go_wp2
  refine ret_row (b := w.heap.size + 1) (C := ncells false a sa) rfl rtNum rfl (by go_simp) (by simp) ⟨rfl, ?_⟩
  exact ((Below.refl _ w).alloc (Nat.le_refl _) _).alloc (by simp) _
set_option maxRecDepth 100000 in
set_option maxHeartbeats 1000000 in
theorem one_abs (na : Bool) (a sa : Nat) (w : World) (ha : Good na a sa) :
    Calls Tryz.prog 47 #[.string ⟨(txt na a sa).toArray⟩, .func (.func 50) #[] #[]] w fun e w' => e = .returned (.tuple #[.string ⟨(wholeR false a sa).1.toArray⟩, .int .i64 (wholeR false a sa).2]) ∧ Below w.heap.size w w' := by
  have GA := Lib.hid ha
  have hs := ha.s31
  clear ha
  go_enter Tryz.func47, Tryz.ntmps47
  go_wp2_with (first
    | (go_at_call 35; refine (parse_yes _ _ _ _ GA.out).mono ?_; rintro e w1 ⟨rfl, hb⟩; have K1 := (Blk.nil w).kept hb; clear hb)
    | (go_at_call 50; refine (absc_any na a sa _).mono ?_; rintro e w2 ⟨rfl, hb⟩; have K2 := (K1.more _).kept hb; clear hb)
    | (go_at_call 60; refine (whole_any _ _ _ _ GA.out.big (by omega)).mono ?_; rintro e w3 ⟨rfl, hb⟩; have K3 := K2.kept hb; clear hb))
  go_ret2
  exact ⟨rfl, K3.below⟩
set_option maxRecDepth 100000 in
set_option maxHeartbeats 1000000 in
theorem abs_yes (na : Bool) (a sa : Nat) (w : World) (ha : Good na a sa) :
    Calls Tryz.prog 20 #[.string ⟨(txt na a sa).toArray⟩] w fun e w' => e = .returned (.tuple #[.string ⟨(txt false a sa).toArray⟩, .int .i64 0]) ∧ Below w.heap.size w w' := by
  have hw : wholeR false a sa = (txt false a sa, 0) := if_pos ha.u31
  have OA := Lib.hid (fun w => one_abs na a sa w ha)
  rw [hw] at OA
  clear ha hw
  go_enter Tryz.func20, Tryz.ntmps20
  go_wp2_with (go_at_call 47; refine (OA.out _).mono ?_; rintro e w1 ⟨rfl, hb⟩)
  go_ret2
  exact ⟨rfl, by assumption⟩
end Go.Proofs.YtkcogoibaodbeaaGreatDoor
