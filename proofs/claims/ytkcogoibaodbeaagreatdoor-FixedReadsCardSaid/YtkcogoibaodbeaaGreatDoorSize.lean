/- wide.size: how many digits. -/
import Derived.Test.YtkcogoibaodbeaaGreatDoorRows
import Derived.Test.YtkcogoibaodbeaaGreatDoorPure
import Derived.WalkKit
import Derived.WalkSpells
import Derived.WalkLawsBesides
import Derived.Lib.Hide
set_option linter.unusedVariables false
set_option linter.unusedSimpArgs false
namespace Go.Proofs.YtkcogoibaodbeaaGreatDoor
open Go.RowKit
set_option maxHeartbeats 400000 in
theorem size_any (n : Nat) (w : World) (hn : n < Big) :
    Calls Tryz.prog 40 #[.agg (wcells n)] w fun e w' => e = .returned (.int .i64 (dl n)) ∧ Below w.heap.size w w' := by
  have hb : n < 10 ^ (127 + 1) := hn
  have HB := Lib.hid hb
  clear hb hn
  go_enter Tryz.func40, Tryz.ntmps40
  go_wp2
  go_loop [3] (fun s => ∃ i : Nat, i < 128 ∧ s = .int .i64 i ∧ Hid (n < 10 ^ (i + 1))) (fun s => (intOf s).toNat)
  case atStart => exact ⟨127, by omega, rfl, HB⟩
  case round =>
    obtain ⟨i, hi, rfl, H⟩ := hrel
    have hc := cell_alloc_wcells w n 44 i hi
    by_cases h0 : 0 < i
    · by_cases hd : 0 < dg n i
      · go_wp2
        go_outline
        go_ret
        exact ⟨by rw [dl_eq i n (le_of_dg_pos hd) H.out]; rfl, (Below.refl _ _).alloc (Nat.le_refl _) _⟩
      · have hz : dg n i = 0 := by omega
        go_wp2
        go_outline
        go_round
        case rel => exact ⟨i - 1, by omega, by go_num, by have := lt_of_dg_zero H.out hz; rw [show i - 1 + 1 = i by omega]; exact this⟩
        case measure => simp [intOf]; omega
    · obtain rfl : i = 0 := by omega
      go_wp2
      go_outline
      go_ret
      exact ⟨by rw [dl_lt10 (by simpa using H.out)]; rfl, (Below.refl _ _).alloc (Nat.le_refl _) _⟩
end Go.Proofs.YtkcogoibaodbeaaGreatDoor
