/- wide.times: the product of two numbers. -/
import Derived.Test.YtkcogoibaodbeaaGreatDoorSize
import Derived.Test.YtkcogoibaodbeaaGreatDoorTypes
import Derived.RegionTactic
import Derived.BigRegion
import Derived.BigQuiet
import Derived.StillTactics
import Derived.IntWalk
import Derived.Deep.RegionHeld3
import Derived.Deep.DeepCutAuto
set_option linter.unusedVariables false
set_option linter.unusedSimpArgs false
namespace Go.Proofs.YtkcogoibaodbeaaGreatDoor
open Go.RowKit
/-- The four blocks of the call, and that nothing older has turned. -/
structure TimesW (w W : World) (a b n : Nat) : Prop where
  r0 : rowOf W w.heap.size = wcells a
  r1 : rowOf W (w.heap.size + 1) = wcells b
  r2 : rowOf W (w.heap.size + 1 + 1) = wcells 0
  r3 : rowOf W (w.heap.size + 1 + 1 + 1) = wcells n
  f2 : freeOf W (w.heap.size + 1 + 1) = true
  f3 : freeOf W (w.heap.size + 1 + 1 + 1) = true
  below : Below w.heap.size w W
  size : w.heap.size + 4 ≤ W.heap.size
theorem TimesW.kept {w W W' : World} {a b n : Nat} (T : TimesW w W a b n) (h : Below W.heap.size W W') : TimesW w W' a b n := by
  obtain ⟨hr, hf⟩ := rows_kept h
  have hz := h.size
  have hs := T.size
  exact ⟨(hr _ (by omega)).trans T.r0, (hr _ (by omega)).trans T.r1, (hr _ (by omega)).trans T.r2, (hr _ (by omega)).trans T.r3, (hf _ (by omega)).trans T.f2, (hf _ (by omega)).trans T.f3, T.below.trans (h.mono (by omega)), by omega⟩
theorem TimesW.drew {w W : World} {a b n : Nat} (T : TimesW w W a b n) : TimesW w W.drew a b n := ⟨T.r0, T.r1, T.r2, T.r3, T.f2, T.f3, T.below.drew, T.size⟩
/-- A number in three parts at the place p. -/
theorem dg_mid (hi r lo p j : Nat) (hr : r < 10) (hl : lo < 10 ^ p) : dg (hi * 10 ^ (p + 1) + r * 10 ^ p + lo) j = if j < p then dg lo j else if j = p then r else dg hi (j - p - 1) := by
  have hp : 0 < 10 ^ p := Nat.pow_pos (by decide)
  have e1 : hi * 10 ^ (p + 1) + r * 10 ^ p + lo = lo + 10 ^ p * (hi * 10 + r) := by
    rw [Nat.pow_succ, Nat.mul_add, Nat.mul_comm (10 ^ p) r, ← Nat.mul_assoc, Nat.mul_right_comm hi, Nat.mul_comm (10 ^ p) (hi * 10), Nat.mul_right_comm]
    omega
  rw [e1]
  by_cases h1 : j < p
  · rw [if_pos h1]
    unfold dg
    rw [show 10 ^ p = 10 ^ j * (10 ^ (p - j - 1) * 10) by rw [← Nat.pow_succ, ← Nat.pow_add]; congr 1; omega, Nat.mul_assoc, Nat.add_mul_div_left _ _ (Nat.pow_pos (by decide)), Nat.mul_right_comm, Nat.add_mul_mod_self_right]
  · rw [if_neg h1]
    have e2 : (lo + 10 ^ p * (hi * 10 + r)) / 10 ^ p = hi * 10 + r := by
      rw [Nat.add_mul_div_left _ _ hp, Nat.div_eq_of_lt hl, Nat.zero_add]
    by_cases h2 : j = p
    · subst h2
      rw [if_pos rfl]
      unfold dg
      rw [e2]; omega
    · rw [if_neg h2]
      unfold dg
      rw [show 10 ^ j = 10 ^ p * (10 * 10 ^ (j - p - 1)) by rw [← Nat.pow_succ', ← Nat.pow_add]; congr 1; omega, ← Nat.div_div_eq_div_mul, e2, ← Nat.div_div_eq_div_mul]
      congr 2; omega
theorem dg_parts (n p : Nat) : n = n / 10 ^ (p + 1) * 10 ^ (p + 1) + dg n p * 10 ^ p + n % 10 ^ p := by
  have h1 := Nat.div_add_mod n (10 ^ (p + 1))
  rw [modp_succ, Nat.mul_comm (10 ^ p)] at h1
  rw [Nat.mul_comm (10 ^ (p + 1))] at h1
  omega
theorem dg_mul_le (n p : Nat) : dg n p * 10 ^ p ≤ n := by have := dg_parts n p; omega
theorem set_dg (n p r : Nat) (hr : r < 10) (hp : p < 128) : (wcells n).setIfInBounds p (.int .u8 r) = wcells (n - dg n p * 10 ^ p + r * 10 ^ p) := by
  have e := dg_parts n p
  have hl := Nat.mod_lt n (show 0 < 10 ^ p from Nat.pow_pos (by decide))
  have e' : n - dg n p * 10 ^ p + r * 10 ^ p = n / 10 ^ (p + 1) * 10 ^ (p + 1) + r * 10 ^ p + n % 10 ^ p := by omega
  have d1 := fun j => dg_mid (n / 10 ^ (p + 1)) (dg n p) (n % 10 ^ p) p j (dg_lt n p) hl
  have d2 := fun j => dg_mid (n / 10 ^ (p + 1)) r (n % 10 ^ p) p j hr hl
  rw [← e] at d1
  rw [← e'] at d2
  apply Array.ext_getElem?
  intro j
  rw [Array.getElem?_setIfInBounds]
  by_cases hj : j < 128
  · rw [wcells_get _ j hj, wcells_get _ j hj, d2 j]
    by_cases hpj : p = j
    · subst hpj
      rw [if_pos rfl, if_pos (by simp; omega), if_neg (by omega), if_pos rfl]
    · rw [if_neg hpj, d1 j]
      by_cases h1 : j < p
      · rw [if_pos h1, if_pos h1]
      · rw [if_neg h1, if_neg h1, if_neg (fun e => hpj e.symm), if_neg (fun e => hpj e.symm)]
  · rw [if_neg (by omega), Array.getElem?_eq_none (by simp; omega), Array.getElem?_eq_none (by simp; omega)]
/-- One step of the inner loop. -/
theorem times_step {b i k c N T d : Nat} (h : N + c * 10 ^ (i + k) = T + d * 10 ^ i * (b % 10 ^ k)) :
    (N - dg N (i + k) * 10 ^ (i + k) + (c + (dg N (i + k) + d * dg b k)) % 10 * 10 ^ (i + k)) + (c + (dg N (i + k) + d * dg b k)) / 10 * 10 ^ (i + (k + 1)) = T + d * 10 ^ i * (b % 10 ^ (k + 1)) := by
  have hx := dg_mul_le N (i + k)
  rw [modp_succ, Nat.mul_add]
  have e1 : d * 10 ^ i * (10 ^ k * dg b k) = d * dg b k * 10 ^ (i + k) := by
    rw [Nat.pow_add]; ac_rfl
  rw [e1]
  generalize dg N (i + k) = x at *
  generalize d * dg b k = y at *
  have hm := Nat.div_add_mod (c + (x + y)) 10
  rw [show i + (k + 1) = (i + k) + 1 by omega, Nat.pow_succ]
  generalize 10 ^ (i + k) = t at *
  generalize (c + (x + y)) / 10 = q at *
  generalize (c + (x + y)) % 10 = r at *
  have e2 : (10 * q + r) * t = (c + (x + y)) * t := by rw [hm]
  have e3 : q * (t * 10) = 10 * q * t := by ac_rfl
  rw [Nat.add_mul, Nat.add_mul, Nat.add_mul] at e2
  omega
/-- Where the inner loop goes on, its places lie in the number. -/
theorem times_room {a b i k c N : Nat} (hi : i < dl a) (hd : dl a + dl b ≤ 128) (h : N + c * 10 ^ (i + k) = b * (a % 10 ^ i) + dg a i * 10 ^ i * (b % 10 ^ k)) (hc : k < dl b ∨ 0 < c) : i + k < 128 := by
  by_cases hk : k < dl b
  · omega
  · have hc : 0 < c := by omega
    have hb : b < 10 ^ k := Nat.lt_of_lt_of_le (lt_pow_dl b) (Nat.pow_le_pow_right (by decide) (by omega))
    rw [Nat.mod_eq_of_lt hb] at h
    have e : b * (a % 10 ^ i) + dg a i * 10 ^ i * b = b * (a % 10 ^ (i + 1)) := by
      rw [modp_succ, Nat.mul_add, Nat.mul_comm (dg a i), Nat.mul_comm b (10 ^ i * dg a i)]
    rw [e] at h
    have h1 : a % 10 ^ (i + 1) ≤ a := Nat.mod_le _ _
    have h2 : b * (a % 10 ^ (i + 1)) ≤ b * a := Nat.mul_le_mul_left _ h1
    have h3 : b * a < 10 ^ (dl b + dl a) := by
      rw [Nat.pow_add]
      exact Nat.mul_lt_mul_of_lt_of_le (lt_pow_dl b) (Nat.le_of_lt (lt_pow_dl a)) (Nat.pow_pos (by decide))
    have h4 : 10 ^ (i + k) ≤ c * 10 ^ (i + k) := Nat.le_mul_of_pos_left _ hc
    have h5 : 10 ^ (i + k) < 10 ^ (dl b + dl a) := by omega
    have := (Nat.pow_lt_pow_iff_right (by decide : 1 < 10)).1 h5
    omega
theorem times_last {a b i k N : Nat} (hk : ¬ k < dl b) (h : N + 0 * 10 ^ (i + k) = b * (a % 10 ^ i) + dg a i * 10 ^ i * (b % 10 ^ k)) : N = b * (a % 10 ^ (i + 1)) := by
  have hb : b < 10 ^ k := Nat.lt_of_lt_of_le (lt_pow_dl b) (Nat.pow_le_pow_right (by decide) (by omega))
  rw [Nat.mod_eq_of_lt hb, Nat.zero_mul, Nat.add_zero] at h
  rw [h, modp_succ, Nat.mul_add, Nat.mul_comm (dg a i), Nat.mul_comm b (10 ^ i * dg a i)]
/-- A store into the product's block. -/
theorem TimesW.set {w W : World} {a b n : Nat} (T : TimesW w W a b n) {p r : Nat} (hp : p < 128) (hr : r < 10) : TimesW w (W.setCell ⟨w.heap.size + 1 + 1 + 1, p, none⟩ (.int .u8 r)) a b (n - dg n p * 10 ^ p + r * 10 ^ p) :=
  ⟨by rw [rowOf_setCell_other _ _ _ _ (by simp only [ne_eq]; omega)]; exact T.r0, by rw [rowOf_setCell_other _ _ _ _ (by simp only [ne_eq]; omega)]; exact T.r1, by rw [rowOf_setCell_other _ _ _ _ (by simp only [ne_eq]; omega)]; exact T.r2,
    by rw [rowOf_setCell_same, T.r3, set_dg n p r hr hp], by rw [freeOf_setCell]; exact T.f2, by rw [freeOf_setCell]; exact T.f3, T.below.setCell (by simp only; omega) _, by rw [World.size_setCell]; exact T.size⟩
set_option maxRecDepth 100000 in
set_option maxHeartbeats 1000000 in
theorem times_any (a b : Nat) (w : World) (ha : a < Big) (hb : b < Big) (hd : dl a + dl b ≤ 128) :
    Calls Tryz.prog 78 #[.agg (wcells a), .agg (wcells b)] w fun e w' => e = .returned (.agg (wcells (a * b))) ∧ Below w.heap.size w w' := by
  have HA := Lib.hid ha
  have HB := Lib.hid hb
  have da := dl_pos a
  have db := dl_pos b
  clear ha hb
  go_enter Tryz.func78, Tryz.ntmps78
  go_upto_region 2 with fail
  have T0 : TimesW w ((((w.alloc (.cells (wcells a) 41)).alloc (.cells (wcells b) 41)).alloc (.cells (wcells 0) 41)).alloc (.cells (wcells 0) 41)) a b 0 :=
    ⟨by go_simp, by go_simp, by go_simp, by go_simp, by go_simp, by go_simp,
      ((((Below.refl _ w).alloc (Nat.le_refl _) _).alloc (by simp only [World.size_alloc]; omega) _).alloc (by simp only [World.size_alloc]; omega) _).alloc (by simp only [World.size_alloc]; omega) _, by simp⟩
  obtain ⟨W, hW⟩ : ∃ W, (((w.alloc (.cells (wcells a) 41)).alloc (.cells (wcells b) 41)).alloc (.cells (wcells 0) 41)).alloc (.cells (wcells 0) 41) = W := ⟨_, rfl⟩
  rw [hW] at T0 ⊢
  clear hW
  go_cut [6, 7] (fun s6 s7 W => s6 = .int .i64 (dl a) ∧ s7 = .int .i64 (dl b) ∧ TimesW w W a b 0)
  case first =>
    have T1 := T0.drew
    have r0 := T0.r0
    have r1 := T0.r1
    go_region_with (go_at_call 40; refine (size_any _ _ (by first | exact HA.out | exact HB.out)).mono ?_; rintro e w' ⟨rfl, hbk⟩; have T2 := TimesW.kept (by assumption) hbk; clear hbk; have r0 := T2.r0; have r1 := T2.r1)
    all_goals (go_wp2_with fail; go_meet; exact ⟨rfl, rfl, by assumption⟩)
  case rest =>
    obtain ⟨rfl, rfl, T⟩ := hcut
    clear T0 W
    rename_i W
    go_wp2
    go_loopw [8, 9, 10, 16] (fun _ _ _ s16 W => ∃ i : Nat, i ≤ dl a ∧ s16 = .int .i64 i ∧ TimesW w W a b (b * (a % 10 ^ i))) (fun _ _ _ s16 _ => dl a - (intOf s16).toNat)
    case atStart => exact ⟨0, by omega, rfl, by rw [Nat.pow_zero, Nat.mod_one, Nat.mul_zero]; exact T⟩
    case round =>
      obtain ⟨i, hi, rfl, T1⟩ := hrel
      by_cases hlt : i < dl a
      · go_wp2
        go_loopw [9, 10] (fun s9 s10 W => ∃ k c N : Nat, s9 = .int .i64 c ∧ s10 = .int .i64 k ∧ c ≤ 9 ∧ i + k ≤ 128 ∧ Hid (N + c * 10 ^ (i + k) = b * (a % 10 ^ i) + dg a i * 10 ^ i * (b % 10 ^ k)) ∧ TimesW w W a b N) (fun _ s10 _ => 128 - (intOf s10).toNat)
        case atStart => exact ⟨0, 0, b * (a % 10 ^ i), rfl, rfl, by omega, by omega, by unfold Hid; simp [Nat.mod_one], T1⟩
        case round =>
          obtain ⟨k, c, N, rfl, rfl, hc9, hik, HN, T2⟩ := hrel
          by_cases hgo : k < dl b ∨ 0 < c
          · have hroom := times_room hlt hd HN.out hgo
            have HS := Lib.hid (times_step HN.out)
            have d0 := dg_lt a i
            have d1 := dg_lt b k
            have d2 := dg_lt N (i + k)
            obtain ⟨p, hp⟩ : ∃ p, p = dg a i * dg b k := ⟨_, rfl⟩
            have hp81 : p ≤ 81 := by rw [hp]; exact Nat.mul_le_mul (show dg a i ≤ 9 by omega) (show dg b k ≤ 9 by omega)
            rw [← hp] at HS
            have hpI : (dg a i : Int) * (dg b k : Int) = (p : Int) := by rw [hp]; simp
            clear hp
            have f3 := T2.f3
            have cw : wr.cell? ⟨w.heap.size, i, none⟩ = some (.int .u8 (dg a i)) := by rw [cell_row, T2.r0]; exact wcells_get _ _ (by omega)
            have cv : wr.cell? ⟨w.heap.size + 1, k, none⟩ = some (.int .u8 (dg b k)) := by rw [cell_row, T2.r1]; exact wcells_get _ _ (by omega)
            have co : wr.cell? ⟨w.heap.size + 1 + 1 + 1, i + k, none⟩ = some (.int .u8 (dg N (i + k))) := by rw [cell_row, T2.r3]; exact wcells_get _ _ (by omega)
            have fo : wr.frozen? ⟨w.heap.size + 1 + 1 + 1, i + k, none⟩ = false := frozen_of_free f3
            have T3 := (T2.drew).set (p := i + k) (r := (c + (dg N (i + k) + p)) % 10) hroom (Nat.mod_lt _ (by decide))
            have hkk : k < 128 := by omega
            have w1 : IntKind.i64.wrap ((i : Int) + (k : Int)) = (i : Int) + (k : Int) := IntWalk.i64_in _ (by omega)
            have w2 : IntKind.i64.wrap (dg a i : Int) = (dg a i : Int) := IntWalk.i64_in _ (by omega)
            have w3 : IntKind.i64.wrap (dg b k : Int) = (dg b k : Int) := IntWalk.i64_in _ (by omega)
            have w4 : IntKind.i64.wrap (dg N (i + k) : Int) = (dg N (i + k) : Int) := IntWalk.i64_in _ (by omega)
            have w5 : IntKind.i64.wrap (p : Int) = (p : Int) := IntWalk.i64_in _ (by omega)
            have w6 : IntKind.i64.wrap ((dg N (i + k) : Int) + (p : Int)) = (dg N (i + k) : Int) + (p : Int) := IntWalk.i64_in _ (by omega)
            have w7 : IntKind.i64.wrap ((c : Int) + ((dg N (i + k) : Int) + (p : Int))) = (c : Int) + ((dg N (i + k) : Int) + (p : Int)) := IntWalk.i64_in _ (by omega)
            have w8 : ((i : Int) + (k : Int)).toNat = i + k := by omega
            have w9 : (0 : Int) ≤ (i : Int) + (k : Int) := by omega
            have w10 : (i : Int) + (k : Int) < 128 := by omega
            have w11 : (i : Int) < 128 := by omega
            have w12 : (k : Int) < 128 := by omega
            have eV : (((c + (dg N (i + k) + p)) % 10 : Nat) : Int) = ((c : Int) + ((dg N (i + k) : Int) + (p : Int))) % 10 := by omega
            rw [eV] at T3
            clear eV
            go_wp2
            all_goals
              go_still (by kernel_rfl)
              clear w1 w2 w3 w4 w5 w6 w7 w8 hpI
              go_wp2
              refine ⟨⟨k + 1, (c + (dg N (i + k) + p)) / 10, _, by congr 1, by go_num, by omega, by omega, HS.out, T3⟩, by simp [intOf]; omega⟩
          · obtain rfl : c = 0 := by omega
            have hkm : ¬ k < dl b := by omega
            have HL := Lib.hid (times_last hkm HN.out)
            go_wp2
            refine ⟨⟨i + 1, by omega, by go_num, by rw [← HL.out]; exact T2⟩, by simp [intOf]; omega⟩
      · obtain rfl : i = dl a := by omega
        have r3 := T1.r3
        have r2 := T1.r2
        have f2 := T1.f2
        rw [Nat.mod_eq_of_lt (lt_pow_dl a)] at r3
        go_wp2
        refine ret_row (b := w.heap.size + 1 + 1) (C := wcells (b * a)) rfl rtWide rfl (by rw [rowOf_putRow_same _ _ _ _ f2, r2, splice_wide]) (by simp) ⟨by rw [Nat.mul_comm], ?_⟩
        exact T1.below.putRow (by omega) _ _
end Go.Proofs.YtkcogoibaodbeaaGreatDoor
