/- wide.over: the quotient and what is left. -/
import Derived.Test.YtkcogoibaodbeaaGreatDoorSize
import Derived.Test.YtkcogoibaodbeaaGreatDoorShift
import Derived.Test.YtkcogoibaodbeaaGreatDoorMinus
import Derived.Test.YtkcogoibaodbeaaGreatDoorTimes
import Derived.RegionTactic
import Derived.BigRegion
import Derived.Deep.DeepCutAuto
set_option linter.unusedVariables false
set_option linter.unusedSimpArgs false
namespace Go.Proofs.YtkcogoibaodbeaaGreatDoor
open Go.RowKit
theorem left1_any (n : Nat) (w : World) :
    Calls Tryz.prog 58 #[.agg (wcells n), .int .i64 1] w fun e w' => e = .returned (.agg (wcells (n * 10))) ∧ Below w.heap.size w w' := by
  have := left_any n 1 w (by decide)
  rw [Nat.pow_one] at this
  exact this
structure OverW (w W : World) (a b q r : Nat) : Prop where
  r0 : rowOf W w.heap.size = wcells a
  r1 : rowOf W (w.heap.size + 1) = wcells b
  r2 : rowOf W (w.heap.size + 1 + 1) = wcells 0
  r3 : rowOf W (w.heap.size + 1 + 1 + 1) = wcells 0
  r4 : rowOf W (w.heap.size + 1 + 1 + 1 + 1) = wcells q
  r5 : rowOf W (w.heap.size + 1 + 1 + 1 + 1 + 1) = wcells r
  f2 : freeOf W (w.heap.size + 1 + 1) = true
  f3 : freeOf W (w.heap.size + 1 + 1 + 1) = true
  f4 : freeOf W (w.heap.size + 1 + 1 + 1 + 1) = true
  f5 : freeOf W (w.heap.size + 1 + 1 + 1 + 1 + 1) = true
  below : Below w.heap.size w W
  size : w.heap.size + 6 ≤ W.heap.size
theorem OverW.kept {w W W' : World} {a b q r : Nat} (T : OverW w W a b q r) (h : Below W.heap.size W W') : OverW w W' a b q r := by
  obtain ⟨hr, hf⟩ := rows_kept h
  have hz := h.size
  have hs := T.size
  exact ⟨(hr _ (by omega)).trans T.r0, (hr _ (by omega)).trans T.r1, (hr _ (by omega)).trans T.r2, (hr _ (by omega)).trans T.r3, (hr _ (by omega)).trans T.r4, (hr _ (by omega)).trans T.r5,
    (hf _ (by omega)).trans T.f2, (hf _ (by omega)).trans T.f3, (hf _ (by omega)).trans T.f4, (hf _ (by omega)).trans T.f5, T.below.trans (h.mono (by omega)), by omega⟩
theorem OverW.putR {w W : World} {a b q r : Nat} (T : OverW w W a b q r) (r' : Nat) : OverW w (W.putRow (w.heap.size + 1 + 1 + 1 + 1 + 1) 0 (wcells r')) a b q r' :=
  ⟨by rw [rowOf_putRow_other _ _ _ _ _ (by omega)]; exact T.r0, by rw [rowOf_putRow_other _ _ _ _ _ (by omega)]; exact T.r1, by rw [rowOf_putRow_other _ _ _ _ _ (by omega)]; exact T.r2, by rw [rowOf_putRow_other _ _ _ _ _ (by omega)]; exact T.r3, by rw [rowOf_putRow_other _ _ _ _ _ (by omega)]; exact T.r4,
    by rw [rowOf_putRow_same _ _ _ _ T.f5, T.r5, splice_wide], by rw [freeOf_putRow]; exact T.f2, by rw [freeOf_putRow]; exact T.f3, by rw [freeOf_putRow]; exact T.f4, by rw [freeOf_putRow]; exact T.f5, T.below.putRow (by omega) _ _, by rw [size_putRow]; exact T.size⟩
theorem OverW.setR {w W : World} {a b q r : Nat} (T : OverW w W a b q (r * 10)) {d : Nat} (hd : d < 10) : OverW w (W.setCell ⟨w.heap.size + 1 + 1 + 1 + 1 + 1, 0, none⟩ (.int .u8 d)) a b q (r * 10 + d) :=
  ⟨by rw [rowOf_setCell_other _ _ _ _ (by simp only [ne_eq]; omega)]; exact T.r0, by rw [rowOf_setCell_other _ _ _ _ (by simp only [ne_eq]; omega)]; exact T.r1, by rw [rowOf_setCell_other _ _ _ _ (by simp only [ne_eq]; omega)]; exact T.r2, by rw [rowOf_setCell_other _ _ _ _ (by simp only [ne_eq]; omega)]; exact T.r3, by rw [rowOf_setCell_other _ _ _ _ (by simp only [ne_eq]; omega)]; exact T.r4,
    by
      rw [rowOf_setCell_same, T.r5, set_dg _ 0 d hd (by omega)]
      congr 1
      have : dg (r * 10) 0 = 0 := by simp [dg]
      rw [this]; omega,
    by rw [freeOf_setCell]; exact T.f2, by rw [freeOf_setCell]; exact T.f3, by rw [freeOf_setCell]; exact T.f4, by rw [freeOf_setCell]; exact T.f5, T.below.setCell (by simp only; omega) _, by rw [World.size_setCell]; exact T.size⟩
theorem OverW.setQ {w W : World} {a b q r : Nat} (T : OverW w W a b q r) {p d : Nat} (hp : p < 128) (hd : d < 10) : OverW w (W.setCell ⟨w.heap.size + 1 + 1 + 1 + 1, p, none⟩ (.int .u8 d)) a b (q - dg q p * 10 ^ p + d * 10 ^ p) r :=
  ⟨by rw [rowOf_setCell_other _ _ _ _ (by simp only [ne_eq]; omega)]; exact T.r0, by rw [rowOf_setCell_other _ _ _ _ (by simp only [ne_eq]; omega)]; exact T.r1, by rw [rowOf_setCell_other _ _ _ _ (by simp only [ne_eq]; omega)]; exact T.r2, by rw [rowOf_setCell_other _ _ _ _ (by simp only [ne_eq]; omega)]; exact T.r3,
    by rw [rowOf_setCell_same, T.r4, set_dg q p d hd hp], by rw [rowOf_setCell_other _ _ _ _ (by simp only [ne_eq]; omega)]; exact T.r5,
    by rw [freeOf_setCell]; exact T.f2, by rw [freeOf_setCell]; exact T.f3, by rw [freeOf_setCell]; exact T.f4, by rw [freeOf_setCell]; exact T.f5, T.below.setCell (by simp only; omega) _, by rw [World.size_setCell]; exact T.size⟩
/-- The quotient and the rest of the number's first places. -/
def ovQ (a b j : Nat) : Nat := a / 10 ^ j / b * 10 ^ j
def ovR (a b j : Nat) : Nat := a / 10 ^ j % b
theorem div_step (a i : Nat) : a / 10 ^ i = a / 10 ^ (i + 1) * 10 + dg a i := by
  unfold dg; rw [Nat.pow_succ, ← Nat.div_div_eq_div_mul]; omega
theorem ov_step {a b i : Nat} (hb : 0 < b) : ovR a b i = (ovR a b (i + 1) * 10 + dg a i) % b ∧ ovQ a b i = ovQ a b (i + 1) + (ovR a b (i + 1) * 10 + dg a i) / b * 10 ^ i := by
  unfold ovR ovQ
  rw [div_step a i]
  generalize a / 10 ^ (i + 1) = x
  generalize dg a i = d
  have hx := Nat.div_add_mod x b
  have e : x * 10 + d = b * (x / b * 10) + (x % b * 10 + d) := by
    have : (b * (x / b) + x % b) * 10 = x * 10 := by rw [hx]
    rw [Nat.add_mul, Nat.mul_assoc] at this; omega
  constructor
  · rw [e, Nat.mul_add_mod]
  · rw [e, Nat.mul_add_div hb, Nat.add_mul, Nat.pow_succ]
    congr 1
    ac_rfl
theorem cmp_ge {a b : Nat} (h : b ≤ a) : 0 ≤ cmpOf a b := by unfold cmpOf; split <;> (try split) <;> omega
theorem cmp_lt {a b : Nat} (h : ¬ b ≤ a) : ¬ 0 ≤ cmpOf a b := by unfold cmpOf; rw [if_pos (by omega)]; omega
set_option maxRecDepth 100000 in
set_option maxHeartbeats 2000000 in
theorem over_any (a b : Nat) (w : World) (ha : a < Big) (hb : b * 10 ≤ Big) (hb0 : 0 < b) :
    Calls Tryz.prog 59 #[.agg (wcells a), .agg (wcells b)] w fun e w' => e = .returned (.tuple #[.agg (wcells (a / b)), .agg (wcells (a % b))]) ∧ Below w.heap.size w w' := by
  have HA := Lib.hid ha
  have HB := Lib.hid hb
  have da := dl_pos a
  have da2 : dl a ≤ 128 := (dl_le_iff a 128 (by decide)).2 ha
  clear ha hb
  go_enter Tryz.func59, Tryz.ntmps59
  go_upto_region 2 with fail
  have T0 : OverW w ((((((w.alloc (.cells (wcells a) 41)).alloc (.cells (wcells b) 41)).alloc (.cells (wcells 0) 41)).alloc (.cells (wcells 0) 41)).alloc (.cells (wcells 0) 41)).alloc (.cells (wcells 0) 41)) a b 0 0 :=
    ⟨by go_simp, by go_simp, by go_simp, by go_simp, by go_simp, by go_simp, by go_simp, by go_simp, by go_simp, by go_simp,
      ((((((Below.refl _ w).alloc (Nat.le_refl _) _).alloc (by simp only [World.size_alloc]; omega) _).alloc (by simp only [World.size_alloc]; omega) _).alloc (by simp only [World.size_alloc]; omega) _).alloc (by simp only [World.size_alloc]; omega) _).alloc (by simp only [World.size_alloc]; omega) _, by simp⟩
  obtain ⟨W, hW⟩ : ∃ W, (((((w.alloc (.cells (wcells a) 41)).alloc (.cells (wcells b) 41)).alloc (.cells (wcells 0) 41)).alloc (.cells (wcells 0) 41)).alloc (.cells (wcells 0) 41)).alloc (.cells (wcells 0) 41) = W := ⟨_, rfl⟩
  rw [hW] at T0 ⊢
  clear hW
  have r0 := T0.r0
  go_wp2_with (go_at_call 40; refine (size_any _ _ HA.out).mono ?_; rintro e w' ⟨rfl, hbk⟩; have T1 := OverW.kept T0 hbk; clear hbk)
  clear r0
  go_loopw [8] (fun s8 W => ∃ j : Nat, j ≤ dl a ∧ s8 = .int .i64 ((j : Int) - 1) ∧ OverW w W a b (ovQ a b j) (ovR a b j)) (fun s8 _ => (intOf s8 + 1).toNat)
  case atStart =>
    refine ⟨dl a, by omega, rfl, ?_⟩
    have e : a / 10 ^ dl a = 0 := Nat.div_eq_of_lt (lt_pow_dl a)
    unfold ovQ ovR
    rw [e]; simpa using T1
  case round =>
    obtain ⟨j, hj, rfl, T2⟩ := hrel
    clear T0 T1
    by_cases hlt : 1 ≤ j
    · obtain ⟨i, rfl⟩ : ∃ i, j = i + 1 := ⟨j - 1, by omega⟩
      have HO := Lib.hid (ov_step (a := a) (i := i) hb0)
      have hR : ovR a b (i + 1) < b := Nat.mod_lt _ hb0
      obtain ⟨R, hRe⟩ : ∃ R, R = ovR a b (i + 1) := ⟨_, rfl⟩
      obtain ⟨Q, hQe⟩ : ∃ Q, Q = ovQ a b (i + 1) := ⟨_, rfl⟩
      have HQ : Hid (dg Q i = 0) := by
        unfold Hid
        rw [hQe]; unfold ovQ dg
        rw [Nat.pow_succ, ← Nat.mul_assoc, Nat.mul_right_comm, Nat.mul_div_cancel _ (Nat.pow_pos (by decide)), Nat.mul_mod_left]
      rw [← hRe, ← hQe] at HO T2
      rw [← hRe] at hR
      clear hRe hQe
      have d0 := dg_lt a i
      have ci : ((i + 1 : Nat) : Int) - 1 = (i : Int) := by omega
      rw [ci]
      have hi128 : i < 128 := by omega
      have hbB : b < Big := by have := HB.out; omega
      have HbB := Lib.hid hbB
      have hX : R * 10 + dg a i < Big := by have := HB.out; omega
      have HX := Lib.hid hX
      clear hbB hX ci
      have hca := wcells_get a i hi128
      have hc0 := wcells_get (R * 10) 0 (by decide)
      have r0 := T2.r0
      have r5 := T2.r5
      have hi1 : (i : Int) < 128 := by omega
      go_wp2_with (go_at_call 58; refine (left1_any _ _).mono ?_; rintro e w1 ⟨rfl, hbk⟩; have T3 := OverW.kept T2 hbk; clear hbk r0 r5; have r0 := T3.r0; have r5 := T3.r5; have f5 := T3.f5; have z5 := frozen_of_free (i := 0) f5)
      have T4 := (T3.putR (R * 10)).setR d0
      clear T2 T3 r0 r5 f5 z5 hca hc0
      go_loopw [22] (fun _ W => ∃ t : Nat, Hid (t * b ≤ R * 10 + dg a i) ∧ OverW w W a b (Q + t * 10 ^ i) (R * 10 + dg a i - t * b)) (fun _ W => 10 - (intOf ((rowOf W (w.heap.size + 1 + 1 + 1 + 1))[i]?.getD undef)).toNat)
      case atStart => exact ⟨0, by unfold Hid; omega, by rw [Nat.zero_mul, Nat.zero_mul]; exact T4⟩
      case round =>
        clear T4
        obtain ⟨t, HT, T5⟩ := hrel
        have r0 := T5.r0
        have r1 := T5.r1
        have r5 := T5.r5
        have HR' : Hid (R * 10 + dg a i - t * b < Big) := by have := HX.out; unfold Hid; omega
        by_cases hge : b ≤ R * 10 + dg a i - t * b
        · have hcmp := cmp_ge hge
          have HGE := Lib.hid hge
          clear hge
          have ht9 : t < 9 := by
            have h1 := HT.out
            have h2 := HGE.out
            rcases Nat.lt_or_ge t 9 with h | h
            · exact h
            · have : 9 * b ≤ t * b := Nat.mul_le_mul_right _ h
              omega
          have hdq : dg (Q + t * 10 ^ i) i = t := by
            unfold dg
            rw [Nat.add_mul_div_right _ _ (Nat.pow_pos (by decide)), Nat.add_mod]
            have := HQ.out
            unfold dg at this
            rw [this]; omega
          have T5H := Lib.hid T5
          go_wp2_with (first | (go_at_call 76; refine (compare_any _ _ _ HR'.out HbB.out).mono ?_; rintro e w1 ⟨rfl, hbk⟩; have T6 := OverW.kept T5 hbk; clear hbk r0 r1 r5 T5; have r0 := T6.r0; have r1 := T6.r1; have r5 := T6.r5) | (go_at_call 77; refine (minus_any _ _ _ HGE.out).mono ?_; rintro e w2 ⟨rfl, hbk⟩; have T7 := OverW.kept T6 hbk; clear hbk r0 r1 r5 T6; have r0 := T7.r0; have r1 := T7.r1; have r4 := T7.r4; have r5 := T7.r5; have f5 := T7.f5; have f4 := T7.f4; have z4 := frozen_of_free (i := i) f4))
          have T8 := (T7.putR (R * 10 + dg a i - t * b - b)).setQ (p := i) (d := t + 1) hi128 (by omega)
          rw [hdq, show Q + t * 10 ^ i - t * 10 ^ i + (t + 1) * 10 ^ i = Q + (t + 1) * 10 ^ i by omega, show R * 10 + dg a i - t * b - b = R * 10 + dg a i - (t + 1) * b by rw [Nat.add_mul]; omega, show ((t + 1 : Nat) : Int) = (t : Int) + 1 by omega] at T8
          rw [show R * 10 + dg a i - t * b - b = R * 10 + dg a i - (t + 1) * b by rw [Nat.add_mul]; omega]
          refine ⟨⟨t + 1, ?_, T8⟩, ?_⟩
          · have h1 := HT.out
            have h2 := HGE.out
            unfold Hid; rw [Nat.add_mul]; omega
          · have hd2 : dg (Q + (t + 1) * 10 ^ i) i = t + 1 := by
              unfold dg
              rw [Nat.add_mul_div_right _ _ (Nat.pow_pos (by decide)), Nat.add_mod]
              have := HQ.out
              unfold dg at this
              rw [this]; omega
            rw [T8.r4, T5H.out.r4, wcells_get _ i hi128, wcells_get _ i hi128, hd2, hdq]
            simp only [Option.getD_some, intOf, Int.toNat_natCast]
            omega
        · have hcmp := cmp_lt hge
          have HGE := Lib.hid hge
          clear hge
          go_wp2_with (go_at_call 76; refine (compare_any _ _ _ HR'.out HbB.out).mono ?_; rintro e w1 ⟨rfl, hbk⟩; have T6 := OverW.kept T5 hbk; clear hbk r0 r1 r5 T5)
          refine ⟨⟨i, by omega, by go_num, ?_⟩, by simp [intOf]⟩
          have h1 := HT.out
          have h2 := HGE.out
          have ht : (R * 10 + dg a i) / b = t := by
            rw [Nat.div_eq_iff hb0]
            constructor
            · omega
            · have : t * b + b = (t + 1) * b := by rw [Nat.add_mul]; omega
              omega
          have hm : (R * 10 + dg a i) % b = R * 10 + dg a i - t * b := by
            have := Nat.div_add_mod (R * 10 + dg a i) b
            rw [ht, Nat.mul_comm] at this; omega
          have e := HO.out
          rw [ht, hm] at e
          rw [e.1, e.2]
          exact T6
    · obtain rfl : j = 0 := by omega
      have e1 : ovQ a b 0 = a / b := by simp [ovQ]
      have e2 : ovR a b 0 = a % b := by simp [ovR]
      rw [e1, e2] at T2
      clear e1 e2
      have r2 := T2.r2
      have r3 := T2.r3
      have r4 := T2.r4
      have r5 := T2.r5
      have f2 := T2.f2
      have f3 := T2.f3
      go_wp2
      go_region
      go_wp2
      refine ret_row2 (b := w.heap.size + 1 + 1) (b' := w.heap.size + 1 + 1 + 1) (C := wcells (a / b)) (C' := wcells (a % b)) rfl rtWide rtWide rfl rfl (by go_simp) (by go_simp) (by simp) (by simp) ⟨rfl, ?_⟩
      exact ((T2.below.putRow (by omega) _ _).putRow (by omega) _ _).drew
end Go.Proofs.YtkcogoibaodbeaaGreatDoor
