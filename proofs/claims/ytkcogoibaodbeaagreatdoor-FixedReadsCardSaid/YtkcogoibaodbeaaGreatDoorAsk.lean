/- formed, Valid. -/
import Derived.Test.YtkcogoibaodbeaaGreatDoorNum2
import Derived.Test.YtkcogoibaodbeaaGreatDoorParse
set_option linter.unusedVariables false
set_option linter.unusedSimpArgs false
namespace Go.Proofs.YtkcogoibaodbeaaGreatDoor
open Go.RowKit
attribute [local irreducible] ncells wcells txt
theorem ten_big {k : Nat} (h : k ≤ 128) : 10 ^ k ≤ Big := by unfold Big; exact Nat.pow_le_pow_right (by decide) h
theorem lt_of_dl {u k : Nat} (h : dl u ≤ k) (hk : 0 < k) : u < 10 ^ k := (dl_le_iff u k hk).1 h
theorem Good.big {neg : Bool} {u s : Nat} (g : Good neg u s) : u < Big := Nat.lt_of_lt_of_le (lt_of_dl g.u31 (by decide)) (ten_big (by decide))
theorem sc_lt {u s t : Nat} (h : dl u ≤ 31) (ht : t ≤ 31) : scU u s t < 10 ^ 62 := by
  have hu := lt_of_dl h (by decide)
  unfold scU
  split
  · exact Nat.lt_of_le_of_lt (Nat.div_le_self _ _) (Nat.lt_of_lt_of_le hu (Nat.pow_le_pow_right (by decide) (by decide)))
  · calc u * 10 ^ (t - s) < 10 ^ 31 * 10 ^ (t - s) := Nat.mul_lt_mul_of_pos_right hu (Nat.pow_pos (by decide))
      _ ≤ 10 ^ 31 * 10 ^ 31 := Nat.mul_le_mul_left _ (Nat.pow_le_pow_right (by decide) (by omega))
      _ = 10 ^ 62 := by rw [← Nat.pow_add]
theorem Good.sc {neg : Bool} {u s t : Nat} (g : Good neg u s) (ht : t ≤ 31) : scU u s t < Big := Nat.lt_of_lt_of_le (sc_lt g.u31 ht) (ten_big (by decide))
set_option maxRecDepth 100000 in
set_option maxHeartbeats 400000 in
theorem formed_yes (d s : Int) (w : World) (h1 : 1 ≤ d) (h2 : d ≤ 31) (h3 : 0 ≤ s) (h4 : s ≤ d) :
    Calls Tryz.prog 79 #[.int .i64 d, .int .i64 s] w fun e w' => e = .returned (.bool true) ∧ Below w.heap.size w w' := by
  go_enter Tryz.func79, Tryz.ntmps79
  go_wp2
  go_ret
  exact ⟨rfl, Below.refl _ _⟩
set_option maxRecDepth 100000 in
set_option maxHeartbeats 400000 in
theorem valid_yes (na : Bool) (a sa : Nat) (w : World) (ha : Good na a sa) :
    Calls Tryz.prog 8 #[.string ⟨(txt na a sa).toArray⟩] w fun e w' => e = .returned (.bool true) ∧ Below w.heap.size w w' := by
  have G := Lib.hid ha
  clear ha
  go_enter Tryz.func8, Tryz.ntmps8
  go_wp2_with (go_at_call 35; refine (parse_yes _ _ _ _ G.out).mono ?_; rintro e w' ⟨rfl, hb⟩)
  go_ret
  exact ⟨rfl, hb.alloc hb.size _⟩
end Go.Proofs.YtkcogoibaodbeaaGreatDoor
