/- Of. -/
import Derived.Test.YtkcogoibaodbeaaGreatDoorAsk
set_option linter.unusedVariables false
set_option linter.unusedSimpArgs false
namespace Go.Proofs.YtkcogoibaodbeaaGreatDoor
open Go.RowKit
theorem dg_mod_lt {N k i : Nat} (h : i < k) : dg (N % 10 ^ k) i = dg N i := by
  unfold dg
  rw [show (10 : Nat) ^ k = 10 ^ i * 10 ^ (k - i) by rw [← Nat.pow_add]; congr 1; omega, Nat.mod_mul_right_div_self]
  exact Nat.mod_mod_of_dvd _ (by rw [show k - i = (k - i - 1) + 1 by omega, Nat.pow_succ]; exact ⟨_, Nat.mul_comm _ _⟩)
theorem dg_mod_ge {N k i : Nat} (h : k ≤ i) : dg (N % 10 ^ k) i = 0 :=
  dg_zero_of_lt (Nat.lt_of_lt_of_le (Nat.mod_lt _ (Nat.pow_pos (by decide))) (Nat.pow_le_pow_right (by decide) h))
theorem ncells_set_dg (neg : Bool) (N i : Nat) (s : Int) (h : i < 128) : (ncells neg (N % 10 ^ i) s).setIfInBounds (1 + i) (.int .u8 ((dg N i : Nat) : Int)) = ncells neg (N % 10 ^ (i + 1)) s := by
  apply Array.ext_getElem?
  intro j
  by_cases hj : j < 130
  · rw [Array.getElem?_setIfInBounds, ncells_get _ _ _ _ hj, ncells_get _ _ _ _ hj]
    split
    · rename_i e
      subst e
      rw [if_pos (by simp; omega), if_neg (by omega), if_neg (by omega), show 1 + i - 1 = i by omega, dg_mod_lt (by omega)]
    · rename_i e
      congr 1
      split
      · rfl
      · split
        · rfl
        · by_cases hk : j - 1 < i
          · rw [dg_mod_lt hk, dg_mod_lt (by omega)]
          · rw [dg_mod_ge (by omega), dg_mod_ge (by omega)]
  · rw [Array.getElem?_eq_none (by simp; omega), Array.getElem?_eq_none (by simp; omega)]
theorem build_num02 (b : Bool) (n : Int) (w : World) :
    (Instr.build 45 #[(0, .bool b), (2, .int .i64 n)]).run Tryz.prog w = .ok (.agg (ncells b 0 n)) w := by
  refine run_build (P := Tryz.prog) w _ _ _ ?_
  rw [built_num]
  have h0 : (ncells false 0 0).setIfInBounds 0 (.bool b) = ncells b 0 0 := ncells_set_neg _ _ _ _
  have h2 : (ncells b 0 0).setIfInBounds 129 (.int .i64 n) = ncells b 0 n := ncells_set_scale _ _ _ _
  simp [Instr.fill, Value.cells, h0, h2]
@[go_sem] theorem run_bdN02 (b : Bool) (n : Int) (w : World) : (bdN #[(0, .bool b), (2, .int .i64 n)]).run Tryz.prog w = .ok (.agg (ncells b 0 n)) w := build_num02 b n w
attribute [local irreducible] ncells wcells txt
set_option maxRecDepth 100000 in
set_option maxHeartbeats 1000000 in
theorem of_pos (N s : Nat) (w : World) (hN : N < 9223372036854775808) (hs : s ≤ 31) :
    Calls Tryz.prog 14 #[.int .i64 N, .int .i64 s] w fun e w' => e = .returned (.tuple #[.string ⟨(txt false N s).toArray⟩, .int .i64 0]) ∧ Below w.heap.size w w' := by
  have t1 : ¬ (N : Int) < 0 := by omega
  have hw1 : IntKind.u64.wrap (N : Int) = (N : Int) := IntWalk.u64_in _ (by omega)
  have t2 : ¬ (s : Int) < 0 := by omega
  have t3 : ¬ (31 : Int) < (s : Int) := by omega
  have T0 := (Blk.nil w).lay rfl (ncells false 0 s) 45
  have HN : Hid (N < 10 ^ 20) := by unfold Hid; omega
  have HL : Hid (s ≤ 31) := hs
  have HN2 : Hid (N ≤ 9223372036854775808) := by unfold Hid; omega
  clear hN hs
  go_enter Tryz.func14, Tryz.ntmps14
  go_wp2
  go_loopw [6, 8] (fun s6 s8 W => ∃ i D : Nat, i ≤ 20 ∧ Hid (D = N / 10 ^ i) ∧ s6 = .int .u64 (D : Int) ∧ s8 = .int .i64 (i : Int) ∧ Blk w W [ncells false (N % 10 ^ i) s]) (fun _ s8 _ => 20 - (intOf s8).toNat)
  case atStart => exact ⟨0, N, by omega, by unfold Hid; simp, rfl, rfl, by rw [Nat.pow_zero, Nat.mod_one]; exact T0⟩
  case round =>
    obtain ⟨i, D, hi, HD, rfl, rfl, T1⟩ := hrel
    clear T0
    by_cases hz : D = 0
    · subst hz
      have HE : N % 10 ^ i = N := Nat.mod_eq_of_lt (by
        have := HD.out
        rcases Nat.lt_or_ge N (10 ^ i) with h | h
        · exact h
        · have := Nat.div_pos h (Nat.pow_pos (by decide)); omega)
      rw [HE] at T1
      clear HE
      have r0 : rowOf _ (w.heap.size) = _ := T1.row 0 _ rfl
      have HB : Hid (N < Big) := Nat.lt_of_lt_of_le HN.out (ten_big (by decide))
      go_wp2_with (go_at_call 32; refine (text_any _ _ _ _ HB.out (by have := HL.out; omega)).mono ?_; rintro e w2 ⟨rfl, hb⟩; have T2 := T1.kept hb; clear hb)
      go_ret2
      exact ⟨rfl, T2.below⟩
    · have hp : (0 : Int) < (D : Int) := by omega
      have hi2 : i < 20 := by
        rcases Nat.lt_or_ge i 20 with h | h
        · exact h
        · exfalso; apply hz; rw [HD.out]; exact Nat.div_eq_of_lt (Nat.lt_of_lt_of_le HN.out (Nat.pow_le_pow_right (by decide) h))
      have HT := Lib.hid (show ncells false (N % 10 ^ (i + 1)) s = (ncells false (N % 10 ^ i) s).setIfInBounds (1 + i) (.int .u8 ((D : Int) % 10)) by rw [HD.out]; exact (ncells_set_dg false N i s (by omega)).symm)
      have HQ := Lib.hid (show D / 10 = N / 10 ^ (i + 1) by rw [HD.out, Nat.div_div_eq_div_mul, Nat.pow_succ])
      have r0 : rowOf _ (w.heap.size) = _ := T1.row 0 _ rfl
      have f0 : freeOf _ (w.heap.size) = _ := T1.fr 0 rfl
      have z0 : World.frozen? _ ⟨w.heap.size, 1 + i, none⟩ = _ := T1.frozen 0 rfl (1 + i)
      have hi128 : (i : Int) < 128 := by omega
      have T2 := T1.set 0 rfl (1 + i) (.int .u8 ((D : Int) % 10))
      have w8 : IntKind.u8.wrap ((D : Int) % 10) = (D : Int) % 10 := IntWalk.u8_in _ (by omega)
      have hDN : D ≤ N := by rw [HD.out]; exact Nat.div_le_self _ _
      have hN2 := HN2.out
      have w9 : IntKind.u64.wrap ((D : Int) / 10) = (D : Int) / 10 := IntWalk.u64_in _ (by omega)
      have c0 : World.cell? _ ⟨w.heap.size, 1 + i, none⟩ = some (.int .u8 (dg (N % 10 ^ i) i)) := (T1.cell 0 rfl (1 + i)).trans (by rw [ncells_get _ _ _ _ (by omega), if_neg (by omega), if_neg (by omega), show 1 + i - 1 = i by omega])
      clear hN2 hDN
      go_wp2
      refine ⟨⟨i + 1, D / 10, by omega, HQ, rfl, rfl, ?_⟩, by simp [intOf]; omega⟩
      rw [HT.out]
      exact T2
set_option maxRecDepth 100000 in
set_option maxHeartbeats 1000000 in
theorem of_neg (N s : Nat) (w : World) (h0 : 0 < N) (hN : N ≤ 9223372036854775808) (hs : s ≤ 31) :
    Calls Tryz.prog 14 #[.int .i64 (-(N : Int)), .int .i64 s] w fun e w' => e = .returned (.tuple #[.string ⟨(txt true N s).toArray⟩, .int .i64 0]) ∧ Below w.heap.size w w' := by
  have t1 : -(N : Int) < 0 := by omega
  have t4 : (0 : Int) < (N : Int) := by omega
  have hw1 : IntKind.u64.wrap (-(N : Int)) = 18446744073709551616 - (N : Int) := by rw [IntKind.wrap_u64]; omega
  have hw2 : IntKind.u64.wrap (-(18446744073709551616 - (N : Int))) = (N : Int) := by rw [IntKind.wrap_u64]; omega
  have hw3 : IntKind.u64.wrap ((N : Int) - 18446744073709551616) = (N : Int) := by rw [IntKind.wrap_u64]; omega
  have t2 : ¬ (s : Int) < 0 := by omega
  have t3 : ¬ (31 : Int) < (s : Int) := by omega
  have T0 := (Blk.nil w).lay rfl (ncells true 0 s) 45
  have HN : Hid (N < 10 ^ 20) := by unfold Hid; omega
  have HL : Hid (s ≤ 31) := hs
  have HN2 : Hid (N ≤ 9223372036854775808) := by unfold Hid; omega
  clear hN hs
  go_enter Tryz.func14, Tryz.ntmps14
  go_wp2
  go_loopw [6, 8] (fun s6 s8 W => ∃ i D : Nat, i ≤ 20 ∧ Hid (D = N / 10 ^ i) ∧ s6 = .int .u64 (D : Int) ∧ s8 = .int .i64 (i : Int) ∧ Blk w W [ncells true (N % 10 ^ i) s]) (fun _ s8 _ => 20 - (intOf s8).toNat)
  case atStart => exact ⟨0, N, by omega, by unfold Hid; simp, rfl, rfl, by rw [Nat.pow_zero, Nat.mod_one]; exact T0⟩
  case round =>
    obtain ⟨i, D, hi, HD, rfl, rfl, T1⟩ := hrel
    clear T0
    by_cases hz : D = 0
    · subst hz
      have HE : N % 10 ^ i = N := Nat.mod_eq_of_lt (by
        have := HD.out
        rcases Nat.lt_or_ge N (10 ^ i) with h | h
        · exact h
        · have := Nat.div_pos h (Nat.pow_pos (by decide)); omega)
      rw [HE] at T1
      clear HE
      have r0 : rowOf _ (w.heap.size) = _ := T1.row 0 _ rfl
      have HB : Hid (N < Big) := Nat.lt_of_lt_of_le HN.out (ten_big (by decide))
      go_wp2_with (go_at_call 32; refine (text_any _ _ _ _ HB.out (by have := HL.out; omega)).mono ?_; rintro e w2 ⟨rfl, hb⟩; have T2 := T1.kept hb; clear hb)
      go_ret2
      exact ⟨rfl, T2.below⟩
    · have hp : (0 : Int) < (D : Int) := by omega
      have hi2 : i < 20 := by
        rcases Nat.lt_or_ge i 20 with h | h
        · exact h
        · exfalso; apply hz; rw [HD.out]; exact Nat.div_eq_of_lt (Nat.lt_of_lt_of_le HN.out (Nat.pow_le_pow_right (by decide) h))
      have HT := Lib.hid (show ncells true (N % 10 ^ (i + 1)) s = (ncells true (N % 10 ^ i) s).setIfInBounds (1 + i) (.int .u8 ((D : Int) % 10)) by rw [HD.out]; exact (ncells_set_dg true N i s (by omega)).symm)
      have HQ := Lib.hid (show D / 10 = N / 10 ^ (i + 1) by rw [HD.out, Nat.div_div_eq_div_mul, Nat.pow_succ])
      have r0 : rowOf _ (w.heap.size) = _ := T1.row 0 _ rfl
      have f0 : freeOf _ (w.heap.size) = _ := T1.fr 0 rfl
      have z0 : World.frozen? _ ⟨w.heap.size, 1 + i, none⟩ = _ := T1.frozen 0 rfl (1 + i)
      have hi128 : (i : Int) < 128 := by omega
      have T2 := T1.set 0 rfl (1 + i) (.int .u8 ((D : Int) % 10))
      have w8 : IntKind.u8.wrap ((D : Int) % 10) = (D : Int) % 10 := IntWalk.u8_in _ (by omega)
      have hDN : D ≤ N := by rw [HD.out]; exact Nat.div_le_self _ _
      have hN2 := HN2.out
      have w9 : IntKind.u64.wrap ((D : Int) / 10) = (D : Int) / 10 := IntWalk.u64_in _ (by omega)
      have c0 : World.cell? _ ⟨w.heap.size, 1 + i, none⟩ = some (.int .u8 (dg (N % 10 ^ i) i)) := (T1.cell 0 rfl (1 + i)).trans (by rw [ncells_get _ _ _ _ (by omega), if_neg (by omega), if_neg (by omega), show 1 + i - 1 = i by omega])
      clear hN2 hDN
      go_wp2
      refine ⟨⟨i + 1, D / 10, by omega, HQ, rfl, rfl, ?_⟩, by simp [intOf]; omega⟩
      rw [HT.out]
      exact T2
end Go.Proofs.YtkcogoibaodbeaaGreatDoor
