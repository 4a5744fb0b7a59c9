/- Rem and Abs, and division by zero. -/
import Derived.Test.YtkcogoibaodbeaaDivY
import Derived.Test.YtkcogoibaodbeaaCutF
set_option linter.unusedVariables false
set_option linter.unusedSimpArgs false
namespace Go.Proofs.Ytkcogoibaodbeaa
open Go.RowKit
attribute [local irreducible] ncells wcells txt
set_option maxRecDepth 100000 in
set_option maxHeartbeats 1000000 in
theorem div_zero (na : Bool) (a sa : Nat) (nb : Bool) (sb t : Nat) (w : World) (ha : Good na a sa) (hb : Good nb 0 sb) (ht : t ≤ 31) :
    Calls Try.prog 32 #[.string ⟨(txt na a sa).toArray⟩, .string ⟨(txt nb 0 sb).toArray⟩, .int .i64 t] w fun e w' => e = .returned (.tuple #[.string ⟨#[]⟩, .int .i64 7]) ∧ Below w.heap.size w w' := by
  obtain ⟨b, hb0⟩ : ∃ b, b = 0 := ⟨0, rfl⟩
  rw [← hb0] at hb ⊢
  have GA := Lib.hid ha
  have GB := Lib.hid hb
  have z1 : (b == 0) = true := by simpa using hb0
  have t2 : ¬ (t : Int) < 0 := by omega
  have t3 : ¬ (31 : Int) < (t : Int) := by omega
  clear ha hb hb0
  go_enter Try.func32, Try.ntmps32
  go_wp2_with (first
    | (go_at_call 50; have XX := X1; clear XX; refine (parse_yes _ _ _ _ GB.out).mono ?_; rintro e w2 ⟨rfl, hb⟩; have K2 := (K1.more _).kept hb; have X2 := X1.kept hb; clear hb; have r0 : rowOf _ (w1.heap.size) = _ := X2.row 0 _ rfl; have l0 : w1.heap.size < w2.heap.size := X2.lt 0 rfl; have n0 := Nat.ne_of_lt l0; have n1 := Ne.symm n0; have q0 : rowOf (w2.alloc (.cells (ncells nb b sb) 46)) (w1.heap.size) = ncells na a sa := (X2.more _).row 0 _ rfl)
    | (go_at_call 50; refine (parse_yes _ _ _ _ GA.out).mono ?_; rintro e w1 ⟨rfl, hb⟩; have K1 := (Blk.nil w).kept hb; clear hb; have X1 := (Blk.nil w1).lay rfl (ncells na a sa) 46)
    | (go_at_call 53; refine (zero_any _ _ GB.out.big).mono ?_; rintro e w3 ⟨rfl, hb⟩; have K3 := (K2.more _).kept hb; clear hb))
  go_ret2
  exact ⟨rfl, K3.below⟩
set_option maxRecDepth 100000 in
set_option maxHeartbeats 1000000 in
theorem rem_zero (na : Bool) (a sa : Nat) (nb : Bool) (sb : Nat) (w : World) (ha : Good na a sa) (hb : Good nb 0 sb) :
    Calls Try.prog 34 #[.string ⟨(txt na a sa).toArray⟩, .string ⟨(txt nb 0 sb).toArray⟩] w fun e w' => e = .returned (.tuple #[.string ⟨#[]⟩, .int .i64 7]) ∧ Below w.heap.size w w' := by
  obtain ⟨b, hb0⟩ : ∃ b, b = 0 := ⟨0, rfl⟩
  rw [← hb0] at hb ⊢
  have GA := Lib.hid ha
  have GB := Lib.hid hb
  have z1 : (b == 0) = true := by simpa using hb0
  clear ha hb hb0
  go_enter Try.func34, Try.ntmps34
  go_wp2_with (first
    | (go_at_call 50; have XX := X1; clear XX; refine (parse_yes _ _ _ _ GB.out).mono ?_; rintro e w2 ⟨rfl, hb⟩; have K2 := (K1.more _).kept hb; have X2 := X1.kept hb; clear hb; have r0 : rowOf _ (w1.heap.size) = _ := X2.row 0 _ rfl; have l0 : w1.heap.size < w2.heap.size := X2.lt 0 rfl; have n0 := Nat.ne_of_lt l0; have n1 := Ne.symm n0; have q0 : rowOf (w2.alloc (.cells (ncells nb b sb) 46)) (w1.heap.size) = ncells na a sa := (X2.more _).row 0 _ rfl)
    | (go_at_call 50; refine (parse_yes _ _ _ _ GA.out).mono ?_; rintro e w1 ⟨rfl, hb⟩; have K1 := (Blk.nil w).kept hb; clear hb; have X1 := (Blk.nil w1).lay rfl (ncells na a sa) 46)
    | (go_at_call 53; refine (zero_any _ _ GB.out.big).mono ?_; rintro e w3 ⟨rfl, hb⟩; have K3 := (K2.more _).kept hb; clear hb))
  go_ret2
  exact ⟨rfl, K3.below⟩
set_option maxRecDepth 100000 in
set_option maxHeartbeats 2000000 in
theorem rem_two (na : Bool) (a sa : Nat) (nb : Bool) (b sb : Nat) (w : World) (ha : Good na a sa) (hb : Good nb b sb) (hb0 : b ≠ 0) (x y S : Nat)
    (hx : x < Big) (hy : y * 10 ≤ Big) (hy0 : 0 < y) (hS : S < 127)
    (AL : ∀ w, Calls Try.prog 69 #[.agg (ncells na a sa), .agg (ncells nb b sb)] w fun e w' => e = .returned (.tuple #[.agg (ncells na x S), .agg (ncells nb y S)]) ∧ Below w.heap.size w w') :
    Calls Try.prog 34 #[.string ⟨(txt na a sa).toArray⟩, .string ⟨(txt nb b sb).toArray⟩] w fun e w' => e = .returned (.tuple #[.string ⟨(wholeR na (x % y) S).1.toArray⟩, .int .i64 (wholeR na (x % y) S).2]) ∧ Below w.heap.size w w' := by
  have GA := Lib.hid ha
  have GB := Lib.hid hb
  have z1 : (b == 0) = false := by simpa using hb0
  have HX := Lib.hid hx
  have HY := Lib.hid hy
  have HY0 := Lib.hid hy0
  have HQ := Lib.hid (Nat.lt_of_le_of_lt (Nat.mod_le x y) hx)
  have AL' := Lib.hid AL
  clear ha hb hb0 hx hy hy0 AL
  go_enter Try.func34, Try.ntmps34
  go_wp2_with (first
    | (go_at_call 50; have XX := X1; clear XX; refine (parse_yes _ _ _ _ GB.out).mono ?_; rintro e w2 ⟨rfl, hb⟩; have K2 := (K1.more _).kept hb; have X2 := X1.kept hb; clear hb; have r0 : rowOf _ (w1.heap.size) = _ := X2.row 0 _ rfl; have l0 : w1.heap.size < w2.heap.size := X2.lt 0 rfl; have n0 := Nat.ne_of_lt l0; have n1 := Ne.symm n0; have q0 : rowOf (w2.alloc (.cells (ncells nb b sb) 46)) (w1.heap.size) = ncells na a sa := (X2.more _).row 0 _ rfl)
    | (go_at_call 50; refine (parse_yes _ _ _ _ GA.out).mono ?_; rintro e w1 ⟨rfl, hb⟩; have K1 := (Blk.nil w).kept hb; clear hb; have X1 := (Blk.nil w1).lay rfl (ncells na a sa) 46)
    | (go_at_call 53; refine (zero_any _ _ GB.out.big).mono ?_; rintro e w3 ⟨rfl, hb⟩; have K3 := (K2.more _).kept hb; have X3 := (X2.more _).kept hb; have Z3 := ((Blk.nil w2).lay rfl (ncells nb b sb) 46).kept hb; clear hb; have p0 : rowOf _ (w1.heap.size) = _ := X3.row 0 _ rfl; have p1 : rowOf _ (w2.heap.size) = _ := Z3.row 0 _ rfl)
    | (go_at_call 69; refine (AL'.out _).mono ?_; rintro e w4 ⟨rfl, hb⟩; have K4 := K3.kept hb; have X4 := X3.kept hb; clear hb; have Y4 := ((Blk.nil w4).lay rfl (ncells na x S) 46).lay (by simp) (ncells nb y S) 46; have X5 := (X4.more (.cells (ncells na x S) 46)).more (.cells (ncells nb y S) 46))
    | (go_at_call 71; refine (over_any _ _ _ HX.out HY.out HY0.out).mono ?_; rintro e w5 ⟨rfl, hb⟩; have K5 := ((K4.more _).more _).kept hb; have X6 := X5.kept hb; have Y5 := Y4.kept hb; clear hb; have l1 : w1.heap.size < w5.heap.size := X6.lt 0 rfl; have l4 : w4.heap.size < w5.heap.size := Y5.lt 0 rfl; have m1 : w1.heap.size ≠ w5.heap.size := (by omega); have m2 : w1.heap.size ≠ w5.heap.size + 1 := (by omega); have m3 : w4.heap.size ≠ w5.heap.size := (by omega); have m4 : w4.heap.size ≠ w5.heap.size + 1 := (by omega); have u1 : World.cell? _ ⟨w1.heap.size, 0, none⟩ = some (.bool na) := X6.sgn 0 rfl; have u2 : World.cell? _ ⟨w4.heap.size, 129, none⟩ = some (.int .i64 S) := Y5.scale 0 rfl; have u3 : ((w5.alloc (.cells (wcells (x / y)) 44)).alloc (.cells (wcells (x % y)) 44)).cell? ⟨w1.heap.size, 0, none⟩ = some (.bool na) := ((X6.more _).more _).sgn 0 rfl; have u4 : ((w5.alloc (.cells (wcells (x / y)) 44)).alloc (.cells (wcells (x % y)) 44)).cell? ⟨w4.heap.size, 129, none⟩ = some (.int .i64 S) := ((Y5.more _).more _).scale 0 rfl)
    | (go_at_call 72; refine (whole_any _ _ _ _ HQ.out hS).mono ?_; rintro e w6 ⟨rfl, hb⟩; have K6 := ((K5.more _).more _).kept hb; clear hb))
  go_ret2
  exact ⟨rfl, K6.below⟩
theorem rem_yes (na : Bool) (a sa : Nat) (nb : Bool) (b sb : Nat) (w : World) (ha : Good na a sa) (hb : Good nb b sb) (hb0 : b ≠ 0) :
    Calls Try.prog 34 #[.string ⟨(txt na a sa).toArray⟩, .string ⟨(txt nb b sb).toArray⟩] w fun e w' => e = .returned (.tuple #[.string ⟨(wholeR na (scU a sa (max sa sb) % scU b sb (max sa sb)) (max sa sb)).1.toArray⟩, .int .i64 (wholeR na (scU a sa (max sa sb) % scU b sb (max sa sb)) (max sa sb)).2]) ∧ Below w.heap.size w w' := by
  have fa := ha.s31
  have fb := hb.s31
  have hy := sc_lt (s := sb) (t := max sa sb) hb.u31 (by omega)
  have h2 : scU b sb (max sa sb) * 10 ≤ Big := by
    refine Nat.le_trans (Nat.mul_le_mul_right 10 (Nat.le_of_lt hy)) ?_
    rw [← Nat.pow_succ]; exact ten_big (by decide)
  have h3 : 0 < scU b sb (max sa sb) := by
    rw [scU_up (by omega)]
    exact Nat.mul_pos (by omega) (Nat.pow_pos (by decide))
  exact rem_two na a sa nb b sb w ha hb hb0 _ _ (max sa sb) (ha.sc (by omega)) h2 h3 (by omega)
    (fun w => alike_any na a sa nb b sb w ha.big hb.big (by omega) (by omega))
set_option maxRecDepth 100000 in
set_option maxHeartbeats 1000000 in
theorem absc_any (na : Bool) (a sa : Nat) (w : World) :
    Calls Try.prog 75 #[.agg (ncells na a sa)] w fun e w' => e = .returned (.agg (ncells false a sa)) ∧ Below w.heap.size w w' := by
  have T0 := ((Blk.nil w).lay rfl (ncells na a sa) 46).lay (by simp) (ncells false 0 0) 46
  go_enter Try.func75, Try.ntmps75
  go_wp2
  refine ret_row (b := w.heap.size + 1) (C := ncells false a sa) rfl rtNum rfl (by go_simp) (by simp) ⟨rfl, ?_⟩
  exact ((Below.refl _ w).alloc (Nat.le_refl _) _).alloc (by simp) _
set_option maxRecDepth 100000 in
set_option maxHeartbeats 1000000 in
theorem one_abs (na : Bool) (a sa : Nat) (w : World) (ha : Good na a sa) :
    Calls Try.prog 74 #[.string ⟨(txt na a sa).toArray⟩, .func (.func 75) #[] #[]] w fun e w' => e = .returned (.tuple #[.string ⟨(wholeR false a sa).1.toArray⟩, .int .i64 (wholeR false a sa).2]) ∧ Below w.heap.size w w' := by
  have GA := Lib.hid ha
  have hs := ha.s31
  clear ha
  go_enter Try.func74, Try.ntmps74
  go_wp2_with (first
    | (go_at_call 50; refine (parse_yes _ _ _ _ GA.out).mono ?_; rintro e w1 ⟨rfl, hb⟩; have K1 := (Blk.nil w).kept hb; clear hb)
    | (go_at_call 75; refine (absc_any na a sa _).mono ?_; rintro e w2 ⟨rfl, hb⟩; have K2 := (K1.more _).kept hb; clear hb)
    | (go_at_call 72; refine (whole_any _ _ _ _ GA.out.big (by omega)).mono ?_; rintro e w3 ⟨rfl, hb⟩; have K3 := K2.kept hb; clear hb))
  go_ret2
  exact ⟨rfl, K3.below⟩
set_option maxRecDepth 100000 in
set_option maxHeartbeats 1000000 in
theorem abs_yes (na : Bool) (a sa : Nat) (w : World) (ha : Good na a sa) :
    Calls Try.prog 37 #[.string ⟨(txt na a sa).toArray⟩] w fun e w' => e = .returned (.tuple #[.string ⟨(txt false a sa).toArray⟩, .int .i64 0]) ∧ Below w.heap.size w w' := by
  have hw : wholeR false a sa = (txt false a sa, 0) := if_pos ha.u31
  have OA := Lib.hid (fun w => one_abs na a sa w ha)
  rw [hw] at OA
  clear ha hw
  go_enter Try.func37, Try.ntmps37
  go_wp2_with (go_at_call 74; refine (OA.out _).mono ?_; rintro e w1 ⟨rfl, hb⟩)
  go_ret2
  exact ⟨rfl, by assumption⟩
end Go.Proofs.Ytkcogoibaodbeaa
