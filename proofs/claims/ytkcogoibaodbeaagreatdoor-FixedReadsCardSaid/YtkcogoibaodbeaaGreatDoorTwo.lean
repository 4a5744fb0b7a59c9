/- Add, Sub, Mul of two decimals' texts. -/
import Derived.Test.YtkcogoibaodbeaaGreatDoorNum4
import Derived.Test.YtkcogoibaodbeaaGreatDoorNum5
import Derived.Test.YtkcogoibaodbeaaGreatDoorAsk
set_option linter.unusedVariables false
set_option linter.unusedSimpArgs false
namespace Go.Proofs.YtkcogoibaodbeaaGreatDoor
open Go.RowKit
attribute [local irreducible] ncells wcells txt
theorem numPlus_big (na nb : Bool) {a sa b sb : Nat} (ga : dl a ≤ 31) (gb : dl b ≤ 31) (fa : sa ≤ 31) (fb : sb ≤ 31) : (numPlus na a sa nb b sb).2 < Big := by
  have h1 := sc_lt (s := sa) (t := max sa sb) ga (by omega)
  have h2 := sc_lt (s := sb) (t := max sa sb) gb (by omega)
  refine Nat.lt_of_lt_of_le ?_ (ten_big (k := 63) (by decide))
  rw [show (10 : Nat) ^ 63 = 10 * 10 ^ 62 from by rw [Nat.mul_comm, ← Nat.pow_succ]]
  unfold numPlus plusN
  generalize 10 ^ 62 = z at *
  split
  · dsimp only; omega
  · split <;> dsimp only <;> omega
theorem times_big {a b : Nat} (ga : dl a ≤ 31) (gb : dl b ≤ 31) : a * b < Big := by
  have h1 := lt_of_dl ga (by decide)
  have h2 := lt_of_dl gb (by decide)
  refine Nat.lt_of_lt_of_le (Nat.mul_lt_mul'' h1 h2) ?_
  rw [← Nat.pow_add]
  exact ten_big (by decide)
set_option maxRecDepth 100000 in
set_option maxHeartbeats 2000000 in
theorem add_two (na : Bool) (a sa : Nat) (nb : Bool) (b sb : Nat) (w : World) (ha : Good na a sa) (hb : Good nb b sb) :
    Calls Tryz.prog 53 #[.string ⟨(txt na a sa).toArray⟩, .string ⟨(txt nb b sb).toArray⟩, .func (.func 54) #[] #[]] w fun e w' => e = .returned (.tuple #[.string ⟨(fittedR ((numPlus na a sa nb b sb).1) ((numPlus na a sa nb b sb).2) (max sa sb)).1.toArray⟩, .int .i64 (fittedR ((numPlus na a sa nb b sb).1) ((numPlus na a sa nb b sb).2) (max sa sb)).2]) ∧ Below w.heap.size w w' := by
  have ea := ha.big
  have eb := hb.big
  have fa := ha.s31
  have fb := hb.s31
  have H1 := Lib.hid (ha.sc (t := max sa sb) (by omega))
  have H2 := Lib.hid (hb.sc (t := max sa sb) (by omega))
  have HA := Lib.hid ea
  have HB := Lib.hid eb
  have ga := ha.u31
  have gb := hb.u31
  have HF := Lib.hid (numPlus_big na nb ga gb fa fb)
  have hsa : sa < 128 := by omega
  have hsb : sb < 128 := by omega
  have hS : max sa sb < 127 := by omega
  clear ea eb ga gb
  have GA := Lib.hid ha
  have GB := Lib.hid hb
  clear ha hb
  go_enter Tryz.func53, Tryz.ntmps53
  go_wp2_with (first
    | (go_at_call 35; have XX := X1; clear XX; refine (parse_yes _ _ _ _ GB.out).mono ?_; rintro e w2 ⟨rfl, hb⟩; have K2 := (K1.more _).kept hb; have X2 := X1.kept hb; clear hb; have r0 : rowOf _ (w1.heap.size) = _ := X2.row 0 _ rfl; have l0 : w1.heap.size < w2.heap.size := X2.lt 0 rfl; have n0 := Nat.ne_of_lt l0; have n1 := Ne.symm n0; have q0 : rowOf (w2.alloc (.cells (ncells nb b sb) 45)) (w1.heap.size) = ncells na a sa := (X2.more _).row 0 _ rfl)
    | (go_at_call 35; refine (parse_yes _ _ _ _ GA.out).mono ?_; rintro e w1 ⟨rfl, hb⟩; have K1 := (Blk.nil w).kept hb; clear hb; have X1 := (Blk.nil w1).lay rfl (ncells na a sa) 45)
    | (go_at_call 54; refine (numplus_any na a sa nb b sb _ HA.out HB.out hsa hsb H1.out H2.out).mono ?_; rintro e w3 ⟨rfl, hb⟩; have K3 := (K2.more _).kept hb; clear hb)
    | (go_at_call 74; refine (fitted_any _ _ _ _ HF.out hS).mono ?_; rintro e w4 ⟨rfl, hb⟩; have K4 := K3.kept hb; clear hb))
  go_ret2
  exact ⟨rfl, K4.below⟩
set_option maxRecDepth 100000 in
set_option maxHeartbeats 400000 in
theorem add_yes (na : Bool) (a sa : Nat) (nb : Bool) (b sb : Nat) (w : World) (ha : Good na a sa) (hb : Good nb b sb) :
    Calls Tryz.prog 24 #[.string ⟨(txt na a sa).toArray⟩, .string ⟨(txt nb b sb).toArray⟩] w fun e w' => e = .returned (.tuple #[.string ⟨(fittedR ((numPlus na a sa nb b sb).1) ((numPlus na a sa nb b sb).2) (max sa sb)).1.toArray⟩, .int .i64 (fittedR ((numPlus na a sa nb b sb).1) ((numPlus na a sa nb b sb).2) (max sa sb)).2]) ∧ Below w.heap.size w w' := by
  go_enter Tryz.func24, Tryz.ntmps24
  go_wp2_with (go_at_call 53; refine (add_two na a sa nb b sb _ ha hb).mono ?_; rintro e w1 ⟨rfl, hb⟩)
  go_ret2
  exact ⟨rfl, by assumption⟩
set_option maxRecDepth 100000 in
set_option maxHeartbeats 2000000 in
theorem mul_two (na : Bool) (a sa : Nat) (nb : Bool) (b sb : Nat) (w : World) (ha : Good na a sa) (hb : Good nb b sb) :
    Calls Tryz.prog 53 #[.string ⟨(txt na a sa).toArray⟩, .string ⟨(txt nb b sb).toArray⟩, .func (.func 55) #[] #[]] w fun e w' => e = .returned (.tuple #[.string ⟨(fittedR (!(na == nb)) (a * b) (sa + sb)).1.toArray⟩, .int .i64 (fittedR (!(na == nb)) (a * b) (sa + sb)).2]) ∧ Below w.heap.size w w' := by
  have ea := ha.big
  have eb := hb.big
  have fa := ha.s31
  have fb := hb.s31
  have ga := ha.u31
  have gb := hb.u31
  have HD := Lib.hid (show dl a + dl b ≤ 128 by omega)
  have HA := Lib.hid ea
  have HB := Lib.hid eb
  have HF := Lib.hid (times_big ga gb)
  have hsa : sa < 128 := by omega
  have hsb : sb < 128 := by omega
  have hS : sa + sb < 127 := by omega
  clear ea eb ga gb
  have GA := Lib.hid ha
  have GB := Lib.hid hb
  clear ha hb
  go_enter Tryz.func53, Tryz.ntmps53
  go_wp2_with (first
    | (go_at_call 35; have XX := X1; clear XX; refine (parse_yes _ _ _ _ GB.out).mono ?_; rintro e w2 ⟨rfl, hb⟩; have K2 := (K1.more _).kept hb; have X2 := X1.kept hb; clear hb; have r0 : rowOf _ (w1.heap.size) = _ := X2.row 0 _ rfl; have l0 : w1.heap.size < w2.heap.size := X2.lt 0 rfl; have n0 := Nat.ne_of_lt l0; have n1 := Ne.symm n0; have q0 : rowOf (w2.alloc (.cells (ncells nb b sb) 45)) (w1.heap.size) = ncells na a sa := (X2.more _).row 0 _ rfl)
    | (go_at_call 35; refine (parse_yes _ _ _ _ GA.out).mono ?_; rintro e w1 ⟨rfl, hb⟩; have K1 := (Blk.nil w).kept hb; clear hb; have X1 := (Blk.nil w1).lay rfl (ncells na a sa) 45)
    | (go_at_call 55; refine (numtimes_nat na a sa nb b sb _ HA.out HB.out hsa hsb HD.out).mono ?_; rintro e w3 ⟨rfl, hb⟩; have K3 := (K2.more _).kept hb; clear hb)
    | (go_at_call 74; refine (fitted_any _ _ _ _ HF.out hS).mono ?_; rintro e w4 ⟨rfl, hb⟩; have K4 := K3.kept hb; clear hb))
  go_ret2
  exact ⟨rfl, K4.below⟩
set_option maxRecDepth 100000 in
set_option maxHeartbeats 400000 in
theorem mul_yes (na : Bool) (a sa : Nat) (nb : Bool) (b sb : Nat) (w : World) (ha : Good na a sa) (hb : Good nb b sb) :
    Calls Tryz.prog 25 #[.string ⟨(txt na a sa).toArray⟩, .string ⟨(txt nb b sb).toArray⟩] w fun e w' => e = .returned (.tuple #[.string ⟨(fittedR (!(na == nb)) (a * b) (sa + sb)).1.toArray⟩, .int .i64 (fittedR (!(na == nb)) (a * b) (sa + sb)).2]) ∧ Below w.heap.size w w' := by
  go_enter Tryz.func25, Tryz.ntmps25
  go_wp2_with (go_at_call 53; refine (mul_two na a sa nb b sb _ ha hb).mono ?_; rintro e w1 ⟨rfl, hb⟩)
  go_ret2
  exact ⟨rfl, by assumption⟩
end Go.Proofs.YtkcogoibaodbeaaGreatDoor
