/- The statements' bound on texts. -/
import Derived.Test.YtkcogoibaodbeaaGreatDoorBlk
import Derived.Test.YtkcogoibaodbeaaGreatDoorTypes
set_option linter.unusedVariables false
set_option linter.unusedSimpArgs false
namespace Go.Proofs.YtkcogoibaodbeaaGreatDoor
open Go.RowKit
set_option maxRecDepth 100000 in
set_option maxHeartbeats 1000000 in
theorem long_one (x : ByteArray) (b : Nat) (w : World) (hx : x.size ≤ 1125899906842624) (h0 : w.cell? ⟨b, 0, none⟩ = some (.string x)) :
    Calls Tryz.prog 4 #[.slice (some ⟨b, 0, none⟩) 1 1] w fun e w' => e = .returned (.bool (decide (500 < x.size))) ∧ w' = w := by
  have e : decide (500 < x.size) = decide ((500 : Int) < (x.size : Int)) := by
    by_cases h : 500 < x.size
    · rw [decide_eq_true h, decide_eq_true (by omega)]
    · rw [decide_eq_false h, decide_eq_false (by omega)]
  have w1 : IntKind.i64.wrap (x.size : Int) = (x.size : Int) := IntWalk.i64_in _ (by omega)
  rw [e]
  go_enter Tryz.func4, Tryz.ntmps4
  go_wp2
  go_loopw [3, 8] (fun s3 s8 W => W = w ∧ ((s3 = .int .i64 0 ∧ s8 = .int .i64 0) ∨ (s3 = .int .i64 (x.size : Int) ∧ s8 = .int .i64 1))) (fun _ s8 _ => 1 - (intOf s8).toNat)
  case atStart => exact ⟨rfl, Or.inl ⟨rfl, rfl⟩⟩
  case round =>
    obtain ⟨rfl, ⟨rfl, rfl⟩ | ⟨rfl, rfl⟩⟩ := hrel
    · go_wp2
      exact ⟨⟨trivial, Or.inr ⟨rfl, rfl⟩⟩, by decide⟩
    · go_wp2
      go_ret
      exact ⟨rfl, rfl⟩
set_option maxRecDepth 100000 in
set_option maxHeartbeats 1000000 in
theorem long_two (x y : ByteArray) (b : Nat) (w : World) (hx : x.size ≤ 1125899906842624) (hy : y.size ≤ 1125899906842624) (h0 : w.cell? ⟨b, 0, none⟩ = some (.string x)) (h1 : w.cell? ⟨b, 1, none⟩ = some (.string y)) :
    Calls Tryz.prog 4 #[.slice (some ⟨b, 0, none⟩) 2 2] w fun e w' => e = .returned (.bool (decide (500 < x.size + y.size))) ∧ w' = w := by
  have e : decide (500 < x.size + y.size) = decide ((500 : Int) < (x.size : Int) + (y.size : Int)) := by
    by_cases h : 500 < x.size + y.size
    · rw [decide_eq_true h, decide_eq_true (by omega)]
    · rw [decide_eq_false h, decide_eq_false (by omega)]
  have w1 : IntKind.i64.wrap (x.size : Int) = (x.size : Int) := IntWalk.i64_in _ (by omega)
  have w2 : IntKind.i64.wrap ((x.size : Int) + (y.size : Int)) = (x.size : Int) + (y.size : Int) := IntWalk.i64_in _ (by omega)
  rw [e]
  go_enter Tryz.func4, Tryz.ntmps4
  go_wp2
  go_loopw [3, 8] (fun s3 s8 W => W = w ∧ ((s3 = .int .i64 0 ∧ s8 = .int .i64 0) ∨ (s3 = .int .i64 (x.size : Int) ∧ s8 = .int .i64 1) ∨ (s3 = .int .i64 ((x.size : Int) + (y.size : Int)) ∧ s8 = .int .i64 2))) (fun _ s8 _ => 2 - (intOf s8).toNat)
  case atStart => exact ⟨rfl, Or.inl ⟨rfl, rfl⟩⟩
  case round =>
    obtain ⟨rfl, ⟨rfl, rfl⟩ | ⟨rfl, rfl⟩ | ⟨rfl, rfl⟩⟩ := hrel
    · go_wp2
      exact ⟨⟨trivial, Or.inr (Or.inl ⟨rfl, rfl⟩)⟩, by decide⟩
    · go_wp2
      exact ⟨⟨trivial, Or.inr (Or.inr ⟨rfl, rfl⟩)⟩, by decide⟩
    · go_wp2
      go_ret
      exact ⟨rfl, rfl⟩
end Go.Proofs.YtkcogoibaodbeaaGreatDoor
