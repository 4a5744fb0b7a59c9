/- digits: the number that a text of digits tells. -/
import Derived.Test.YtkcogoibaodbeaaGreatDoorDigPure
import Derived.Test.YtkcogoibaodbeaaGreatDoorTypes
set_option linter.unusedVariables false
set_option linter.unusedSimpArgs false
namespace Go.Proofs.YtkcogoibaodbeaaGreatDoor
open Go.RowKit
def DigitsPost (l : List UInt8) (w : World) (e : Ending) (w' : World) : Prop :=
  ((l.all isD = true ∧ l.length ≤ 128 ∧ e = .returned (.tuple #[.agg (wcells (valD l)), .bool true])) ∨
    (¬ (l.all isD = true ∧ l.length ≤ 128) ∧ ∃ m, m < Big ∧ e = .returned (.tuple #[.agg (wcells m), .bool false]))) ∧ Below w.heap.size w w'
structure DigW (w W : World) (n : Nat) : Prop where
  r0 : rowOf W w.heap.size = wcells 0
  r1 : rowOf W (w.heap.size + 1) = wcells n
  f0 : freeOf W w.heap.size = true
  f1 : freeOf W (w.heap.size + 1) = true
  below : Below w.heap.size w W
  size : w.heap.size + 2 ≤ W.heap.size
theorem drop_more (s : ByteArray) (i : Nat) (h : i < s.size) : s.data.toList.drop (s.size - (i + 1)) = s[s.size - 1 - i] :: s.data.toList.drop (s.size - i) := by
  have hk : s.size - 1 - i < s.data.toList.length := by simp; omega
  rw [show s.size - (i + 1) = s.size - 1 - i by omega, List.drop_eq_getElem_cons hk]
  congr 2; omega
theorem DigW.set {w W : World} {l : List UInt8} {c : UInt8} (T : DigW w W (valD l)) (h : l.all isD = true) (hc : isD c = true) (hl : l.length < 128) :
    DigW w (W.setCell ⟨w.heap.size + 1, l.length, none⟩ (.int .u8 ((c.toNat - 48 : Nat) : Int))) (valD (c :: l)) :=
  ⟨by rw [rowOf_setCell_other _ _ _ _ (by simp only [ne_eq]; omega)]; exact T.r0, by rw [rowOf_setCell_same, T.r1, set_top h hc hl], by rw [freeOf_setCell]; exact T.f0, by rw [freeOf_setCell]; exact T.f1,
    T.below.setCell (by simp only; omega) _, by rw [World.size_setCell]; exact T.size⟩
theorem DigW.ret {w W : World} {n : Nat} (T : DigW w W n) : Below w.heap.size w (W.putRow w.heap.size 0 (wcells n)) ∧ rowOf (W.putRow w.heap.size 0 (wcells n)) w.heap.size = wcells n :=
  ⟨T.below.putRow (Nat.le_refl _) _ _, by rw [rowOf_putRow_same _ _ _ _ T.f0, T.r0, splice_wide]⟩
theorem not_all {s : ByteArray} {k : Nat} (hk : k < s.size) (h : isD s[k] = false) : ¬ s.data.toList.all isD = true := by
  intro ha
  have hk' : k < s.data.toList.length := by simpa using hk
  have := (List.all_eq_true.1 ha) (s.data.toList[k]'hk') (List.getElem_mem _)
  rw [show s.data.toList[k]'hk' = s[k] from rfl, h] at this; cases this
set_option maxRecDepth 100000 in
set_option maxHeartbeats 1000000 in
theorem digits_any (s : ByteArray) (w : World) (hs : s.size ≤ maxLen) :
    Calls Tryz.prog 31 #[.string s] w (DigitsPost s.data.toList w) := by
  unfold maxLen at hs
  have hbig : (0 : Nat) < Big := by unfold Big; exact Nat.pow_pos (by decide)
  have HBig := Lib.hid hbig
  clear hbig
  by_cases hlen : s.size ≤ 128
  · go_enter Tryz.func31, Tryz.ntmps31
    go_wp2
    have T0 : DigW w ((w.alloc (.cells (wcells 0) 41)).alloc (.cells (wcells 0) 41)) 0 :=
      ⟨by go_simp, by go_simp, by go_simp, by go_simp, ((Below.refl _ w).alloc (Nat.le_refl _) _).alloc (by simp) _, by simp⟩
    go_loopw [5, 6, 13] (fun _ _ s13 W => ∃ i : Nat, i ≤ s.size ∧ s13 = .int .i64 i ∧ Hid ((s.data.toList.drop (s.size - i)).all isD = true) ∧ DigW w W (valD (s.data.toList.drop (s.size - i)))) (fun _ _ s13 _ => s.size - (intOf s13).toNat)
    case atStart => exact ⟨0, by omega, rfl, by unfold Hid; rw [List.drop_of_length_le (by simp)]; rfl, by rw [List.drop_of_length_le (by simp)]; exact T0⟩
    case round =>
      obtain ⟨i, hi, rfl, HD, T1⟩ := hrel
      clear T0
      by_cases hlt : i < s.size
      · have hk : s.size - 1 - i < s.size := by omega
        have r0 := T1.r0
        have f0 := T1.f0
        have r1 := T1.r1
        have f1 := T1.f1
        have z1 := frozen_of_free (i := i) f1
        have hi128 : (i : Int) < 128 := by omega
        have c1 : wr.cell? ⟨w.heap.size + 1, i, none⟩ = some (.int .u8 (dg (valD (s.data.toList.drop (s.size - i))) i)) := by rw [cell_row, T1.r1]; exact wcells_get _ _ (by omega)
        have HL : Hid ((s.data.toList.drop (s.size - i)).length = i) := by unfold Hid; simp; omega
        have HV : Hid (valD (s.data.toList.drop (s.size - i)) < Big) := by
          have h1 := valD_lt HD.out
          rw [HL.out] at h1
          exact Nat.lt_of_lt_of_le h1 (Nat.pow_le_pow_right (by decide) (by omega))
        by_cases hd1 : (s[s.size - 1 - i].toNat : Int) < 48
        · go_wp2
          refine ret_row_tmp (b := w.heap.size) (C := wcells (valD (s.data.toList.drop (s.size - i)))) rfl rtWide rfl rfl T1.ret.2 (by simp) ?_
          exact ⟨.inr ⟨fun h => not_all hk (by simp only [isD, Bool.and_eq_false_iff, decide_eq_false_iff_not]; omega) h.1, _, HV.out, rfl⟩, T1.ret.1⟩
        · by_cases hd2 : 57 < (s[s.size - 1 - i].toNat : Int)
          · go_wp2
            refine ret_row_tmp (b := w.heap.size) (C := wcells (valD (s.data.toList.drop (s.size - i)))) rfl rtWide rfl rfl T1.ret.2 (by simp) ?_
            exact ⟨.inr ⟨fun h => not_all hk (by simp only [isD, Bool.and_eq_false_iff, decide_eq_false_iff_not]; omega) h.1, _, HV.out, rfl⟩, T1.ret.1⟩
          · have hD : isD s[s.size - 1 - i] = true := by simp only [isD, Bool.and_eq_true, decide_eq_true_eq]; omega
            have T2 := T1.set HD.out hD (by rw [HL.out]; omega)
            rw [HL.out, ← drop_more s i hlt, show ((s[s.size - 1 - i].toNat - 48 : Nat) : Int) = (s[s.size - 1 - i].toNat : Int) - 48 by omega] at T2
            have HD2 := Lib.hid hD
            clear hD
            go_wp2
            refine ⟨⟨i + 1, by omega, by go_num, ?_, T2⟩, by simp [intOf]; omega⟩
            unfold Hid
            rw [drop_more s i hlt, List.all_cons, HD2.out, HD.out]; rfl
      · obtain rfl : i = s.size := by omega
        have h0 : s.data.toList.drop (s.size - s.size) = s.data.toList := by simp
        rw [h0] at HD T1
        have r0 := T1.r0
        have f0 := T1.f0
        have r1 := T1.r1
        clear h0
        go_wp2
        refine ret_row_tmp (b := w.heap.size) (C := wcells (valD s.data.toList)) rfl rtWide rfl rfl T1.ret.2 (by simp) ?_
        exact ⟨.inl ⟨HD.out, by simpa using hlen, rfl⟩, T1.ret.1⟩
  · go_enter Tryz.func31, Tryz.ntmps31
    go_wp2
    have T0 : DigW w ((w.alloc (.cells (wcells 0) 41)).alloc (.cells (wcells 0) 41)) 0 :=
      ⟨by go_simp, by go_simp, by go_simp, by go_simp, ((Below.refl _ w).alloc (Nat.le_refl _) _).alloc (by simp) _, by simp⟩
    refine ret_row_tmp (b := w.heap.size) (C := wcells 0) rfl rtWide rfl rfl (by go_simp) (by simp) ?_
    exact ⟨.inr ⟨fun h => hlen (by simpa using h.2), 0, HBig.out, rfl⟩, ((Below.refl _ w).alloc (Nat.le_refl _) _).alloc (by simp) _⟩
theorem digits_yes (s : ByteArray) (w : World) (h : s.data.toList.all isD = true) (hl : s.size ≤ 128) :
    Calls Tryz.prog 31 #[.string s] w fun e w' => e = .returned (.tuple #[.agg (wcells (valD s.data.toList)), .bool true]) ∧ Below w.heap.size w w' :=
  (digits_any s w (by unfold maxLen; omega)).mono fun _ _ hp => by
    rcases hp with ⟨⟨_, _, he⟩ | ⟨hn, _⟩, hb⟩
    · exact ⟨he, hb⟩
    · exact absurd ⟨h, by simpa using hl⟩ hn
def SomeWide (w : World) (e : Ending) (w' : World) : Prop := ∃ m, m < Big ∧ e = .returned (.tuple #[.agg (wcells m), .bool false]) ∧ Below w.heap.size w w'
theorem digits_no (s : ByteArray) (w : World) (hs : s.size ≤ maxLen) (h : ¬ (s.data.toList.all isD = true ∧ s.size ≤ 128)) :
    Calls Tryz.prog 31 #[.string s] w (SomeWide w) :=
  (digits_any s w hs).mono fun _ _ hp => by
    rcases hp with ⟨⟨h1, h2, _⟩ | ⟨_, m, hm, he⟩, hb⟩
    · exact absurd ⟨h1, by simpa using h2⟩ h
    · exact ⟨m, hm, he, hb⟩
end Go.Proofs.YtkcogoibaodbeaaGreatDoor
