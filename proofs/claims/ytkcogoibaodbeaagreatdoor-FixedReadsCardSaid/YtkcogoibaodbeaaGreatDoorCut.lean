/- strings.Cut at a point: what stands before and behind it. -/
import Derived.Test.YtkcogoibaodbeaaGreatDoorShelf
import Derived.Test.YtkcogoibaodbeaaGreatDoorTxtPure
import Derived.Test.YtkcogoibaodbeaaGreatDoorTypes
import Derived.RegionTactic
import Derived.BigRegion
import Derived.Lib.CutLaws
set_option linter.unusedVariables false
set_option linter.unusedSimpArgs false
namespace Go.Proofs.YtkcogoibaodbeaaGreatDoor
open Go.RowKit Go.Shelf
def cutDot : List UInt8 → List UInt8 × List UInt8 × Bool
  | [] => ([], [], false)
  | c :: l => if c = 46 then ([], l, true) else (c :: (cutDot l).1, (cutDot l).2.1, (cutDot l).2.2)
theorem cutDot_cases (l : List UInt8) : (Lib.indexByte l 46 = -1 ∧ cutDot l = (l, [], false)) ∨ ∃ i : Nat, Lib.indexByte l 46 = i ∧ i + 1 ≤ l.length ∧ cutDot l = (l.take i, l.drop (i + 1), true) := by
  induction l with
  | nil => exact .inl ⟨rfl, rfl⟩
  | cons c l ih =>
    by_cases hc : c = 46
    · subst hc
      exact .inr ⟨0, by simp [Lib.indexByte], by simp, by simp [cutDot]⟩
    · rcases ih with ⟨h1, h2⟩ | ⟨i, h1, h2, h3⟩
      · refine .inl ⟨?_, by simp [cutDot, hc, h2]⟩
        simp [Lib.indexByte, hc, h1]
      · refine .inr ⟨i + 1, ?_, by simp; omega, by simp [cutDot, hc, h3]⟩
        have : ¬ ((i : Int) = -1) := by omega
        simp [Lib.indexByte, hc, h1, this]
theorem cutDot_length (l : List UInt8) : (cutDot l).1.length ≤ l.length ∧ (cutDot l).2.1.length ≤ l.length := by
  rcases cutDot_cases l with ⟨_, h⟩ | ⟨i, _, _, h⟩ <;> rw [h] <;> simp <;> omega
theorem ext_take (l : List UInt8) (i : Nat) : (⟨l.toArray⟩ : ByteArray).extract 0 i = ⟨(l.take i).toArray⟩ := by
  rw [Lib.extract_eq]; simp
theorem ext_drop (l : List UInt8) (i : Nat) : (⟨l.toArray⟩ : ByteArray).extract i l.length = ⟨(l.drop i).toArray⟩ := by
  rw [Lib.extract_eq]
  congr 2
  simp only
  rw [List.take_of_length_le (by simp)]
set_option maxRecDepth 100000 in
set_option maxHeartbeats 1000000 in
theorem cut_lib (l : List UInt8) (w : World) (hl : l.length ≤ 140737488351232) :
    Calls Tryz.prog 63 #[.string ⟨l.toArray⟩, .string ⟨#[46]⟩] w fun e w' => e = .returned (.tuple #[.string ⟨(cutDot l).1.toArray⟩, .string ⟨(cutDot l).2.1.toArray⟩, .bool (cutDot l).2.2]) ∧ Below w.heap.size w w' := by
  rcases cutDot_cases l with ⟨h1, h2⟩ | ⟨i, h1, h3, h2⟩
  · rw [h2]
    have H1 := Lib.hid h1
    clear h1 h2
    go_enter Tryz.func63, Tryz.ntmps63
    go_wp2_with (go_at_call 82; refine (Tryz.stringslite_Index_one _ _ _).mono ?_; rintro e w' ⟨rfl, rfl⟩; rw [show Lib.indexByte (ByteArray.mk l.toArray).data.toList 46 = -1 from H1.out])
    go_ret3
    exact ⟨rfl, Below.refl _ _⟩
  · rw [h2]
    have H1 := Lib.hid h1
    have hsz : (⟨l.toArray⟩ : ByteArray).size = l.length := by simp [ByteArray.size]
    have e1 := ext_take l i
    have e2 := ext_drop l (i + 1)
    have w1 : IntKind.i64.wrap ((i : Int) + 1) = (i : Int) + 1 := IntWalk.i64_in _ (by omega)
    have w2 : (0 : Int) ≤ (i : Int) + 1 := by omega
    have w3 : (i : Int) + 1 ≤ (l.length : Int) := by omega
    have w4 : (i : Int) ≤ (l.length : Int) := by omega
    have w5 : ((i : Int) + 1).toNat = i + 1 := by omega
    have w6 : (0 : Int) ≤ (i : Int) := by omega
    clear h1 h2 hsz
    go_enter Tryz.func63, Tryz.ntmps63
    go_wp2_with (go_at_call 82; refine (Tryz.stringslite_Index_one _ _ _).mono ?_; rintro e w' ⟨rfl, rfl⟩; rw [show Lib.indexByte (ByteArray.mk l.toArray).data.toList 46 = i from H1.out])
    go_region
    go_wp2
    go_ret3
    exact ⟨rfl, (Below.refl _ _).drew⟩
set_option maxHeartbeats 400000 in
theorem cut_any (l : List UInt8) (w : World) (hl : l.length ≤ 140737488351232) :
    Calls Tryz.prog 29 #[.string ⟨l.toArray⟩, .string ⟨#[46]⟩] w fun e w' => e = .returned (.tuple #[.string ⟨(cutDot l).1.toArray⟩, .string ⟨(cutDot l).2.1.toArray⟩, .bool (cutDot l).2.2]) ∧ Below w.heap.size w w' := by
  go_enter Tryz.func29, Tryz.ntmps29
  go_wp2_with (go_at_call 63; refine (cut_lib _ _ hl).mono ?_; rintro e w' ⟨rfl, hb⟩)
  go_ret3
  exact ⟨rfl, hb⟩
end Go.Proofs.YtkcogoibaodbeaaGreatDoor
