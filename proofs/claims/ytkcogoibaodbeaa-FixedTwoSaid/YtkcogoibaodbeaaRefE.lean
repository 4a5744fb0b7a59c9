/- The references' sum and difference. The references' difference. The references' product and quotient. -/
import Derived.Test.YtkcogoibaodbeaaRefB
import Derived.Test.YtkcogoibaodbeaaPlus
import Derived.Test.YtkcogoibaodbeaaPack
set_option linter.unusedVariables false
set_option linter.unusedSimpArgs false
namespace Go.Proofs.Ytkcogoibaodbeaa
open Go.RowKit
attribute [local go_sem] ByteArray.mk_append_mk ByteArray.extract_mk
/-- One byte, converted. -/
theorem conv_one (W : World) (d : Nat) (hd : d < 10) :
    (convert 67 9 (.slice (some ⟨W.heap.size, 0, none⟩) 1 1)).run Try.prog (W.alloc (.cells #[.int .u8 (48 + (d : Int))] 5)) = .ok (.string ⟨#[chr d]⟩) (W.alloc (.cells #[.int .u8 (48 + (d : Int))] 5)) := by
  have h := run_convert_bytes_back (P := Try.prog) (W.alloc (.cells #[.int .u8 (48 + (d : Int))] 5)) 67 9 5 ⟨W.heap.size, 0, none⟩ 1 [chr d] (by kernel_rfl) (by kernel_rfl) (by kernel_rfl) (fun j hj => by
    obtain rfl : j = 0 := by simpa using hj
    have e : (Addr.mk W.heap.size 0 none).add 0 = ⟨W.heap.size, 0, none⟩ := rfl
    rw [e, cell_row, rowOf_alloc_at _ _ _ _ rfl]
    simp [chr_nat hd])
  exact h
theorem dd_0 (u : Nat) : dd u 0 = [] := rfl
theorem dd_1 (u k : Nat) : dd u (k + 1) = chr (dg u k) :: dd u k := rfl
attribute [local irreducible] ds dd
set_option maxRecDepth 100000 in
set_option maxHeartbeats 1000000 in
theorem sum_any (a b : Nat) (w : World) (ha : dl a ≤ 500) (hb : dl b ≤ 500) :
    Calls Try.prog 48 #[.string ⟨(ds a).toArray⟩, .string ⟨(ds b).toArray⟩] w fun e w' => e = .returned (.string ⟨(ds (a + b)).toArray⟩) ∧ Below w.heap.size w w' := by
  have za := ds_length a
  have zb := ds_length b
  obtain ⟨M, hM⟩ : ∃ M, max (dl a) (dl b) = M := ⟨_, rfl⟩
  have hM1 : max ((dl a : Nat) : Int) ((dl b : Nat) : Int) = (M : Int) := by omega
  have hM2 : M ≤ 500 := by omega
  have ha' : dl a ≤ 1000 := by omega
  have hb' : dl b ≤ 1000 := by omega
  have wM : IntKind.i64.wrap ((M : Int) + 1) = (M : Int) + 1 := IntWalk.i64_in _ (by omega)
  go_enter Try.func48, Try.ntmps48
  go_wp2
  go_loopw [5, 6, 15] (fun s5 s6 s15 W => ∃ i c : Nat, i ≤ M + 1 ∧ c ≤ 1 ∧ s5 = .string ⟨(dd (a + b) i).toArray⟩ ∧ s6 = .int .i64 (c : Int) ∧ s15 = .int .i64 (i : Int) ∧ a % 10 ^ i + b % 10 ^ i = (a + b) % 10 ^ i + 10 ^ i * c ∧ Below w.heap.size w W) (fun _ _ s15 _ => M + 1 - (intOf s15).toNat)
  case atStart => exact ⟨0, 0, by omega, by omega, by rw [dd_0], rfl, rfl, by simp [Nat.mod_one], Below.refl _ _⟩
  case round =>
    obtain ⟨i, c, hi, hc, rfl, rfl, rfl, hs, hB⟩ := hrel
    by_cases hlt : i < M + 1
    · have ht : (i : Int) < (M : Int) + 1 := by omega
      obtain ⟨hd, hn⟩ := add_digit a b i c hs
      have d1 := dg_lt a i
      have d2 := dg_lt b i
      have w1 : IntKind.i64.wrap ((dg a i : Int) + (dg b i : Int)) = (dg a i : Int) + (dg b i : Int) := IntWalk.i64_in _ (by omega)
      have w2 : IntKind.i64.wrap ((dg a i : Int) + (dg b i : Int) + (c : Int)) = (dg a i : Int) + (dg b i : Int) + (c : Int) := IntWalk.i64_in _ (by omega)
      obtain ⟨q, hq⟩ : ∃ q, (dg a i + dg b i + c) / 10 = q := ⟨_, rfl⟩
      have q1 : ((dg a i : Int) + (dg b i : Int) + (c : Int)).tdiv 10 = (q : Int) := by
        rw [Int.tdiv_eq_ediv_of_nonneg (by omega)]; omega
      have q2 : ((dg a i : Int) + (dg b i : Int) + (c : Int)).tmod 10 = (dg (a + b) i : Int) := by
        rw [Int.tmod_eq_emod_of_nonneg (by omega)]; omega
      have d3 := dg_lt (a + b) i
      have hz := dd_length (a + b) i
      have hcv := fun W => conv_one W (dg (a + b) i) d3
      clear hs
      go_wp2_with (go_at_call 79; refine (at_any _ _ _ (by assumption)).mono ?_; rintro e w1 ⟨rfl, rfl⟩)
      refine ⟨⟨i + 1, q, by omega, by omega, by rw [dd_1], rfl, rfl, ?_, hB.alloc hB.size _⟩, by simp [intOf]; omega⟩
      rw [hn, hq]
    · obtain rfl : i = M + 1 := by omega
      have ht : ¬ (((M + 1 : Nat) : Int) < (M : Int) + 1) := by omega
      have hab : a + b < 10 ^ (M + 1) := by
        have h1 : a < 10 ^ M := Nat.lt_of_lt_of_le (lt_pow_dl a) (Nat.pow_le_pow_right (by decide) (by omega))
        have h2 : b < 10 ^ M := Nat.lt_of_lt_of_le (lt_pow_dl b) (Nat.pow_le_pow_right (by decide) (by omega))
        rw [Nat.pow_succ]; omega
      have BA := Lib.hid (fun w => bare_any (a + b) (M + 1) w hab (by omega))
      go_wp2_with (go_at_call 59; refine (BA.out _).mono ?_; rintro e w1 ⟨rfl, rfl⟩)
      go_ret
      exact ⟨rfl, hB⟩
end Go.Proofs.Ytkcogoibaodbeaa
namespace Go.Proofs.Ytkcogoibaodbeaa
open Go.RowKit
attribute [local go_sem] ByteArray.mk_append_mk ByteArray.extract_mk
attribute [local irreducible] ds dd
set_option maxRecDepth 100000 in
set_option maxHeartbeats 1000000 in
theorem difference_any (a b : Nat) (w : World) (hab : b ≤ a) (ha : dl a ≤ 500) :
    Calls Try.prog 87 #[.string ⟨(ds a).toArray⟩, .string ⟨(ds b).toArray⟩] w fun e w' => e = .returned (.string ⟨(ds (a - b)).toArray⟩) ∧ Below w.heap.size w w' := by
  have za := ds_length a
  have zb := ds_length b
  obtain ⟨D, hD⟩ : ∃ D, a - b = D := ⟨_, rfl⟩
  have hDa : b + D = a := by omega
  obtain ⟨M, hM⟩ : ∃ M, dl a = M := ⟨_, rfl⟩
  have hM1 : ((dl a : Nat) : Int) = (M : Int) := by omega
  have ha' : dl a ≤ 1000 := by omega
  have hb' : dl b ≤ 1000 := by have := dl_mono hab; omega
  have hDM : D < 10 ^ M := by rw [← hM]; exact Nat.lt_of_le_of_lt (show D ≤ a by omega) (lt_pow_dl a)
  rw [hD]
  go_enter Try.func87, Try.ntmps87
  go_wp2
  go_loopw [5, 6, 11] (fun s5 s6 s11 W => ∃ i c : Nat, i ≤ M ∧ c ≤ 1 ∧ s5 = .string ⟨(dd D i).toArray⟩ ∧ s6 = .int .i64 (c : Int) ∧ s11 = .int .i64 (i : Int) ∧ b % 10 ^ i + D % 10 ^ i = (b + D) % 10 ^ i + 10 ^ i * c ∧ Below w.heap.size w W) (fun _ _ s11 _ => M - (intOf s11).toNat)
  case atStart => exact ⟨0, 0, by omega, by omega, by rw [dd_0], rfl, rfl, by simp [Nat.mod_one], Below.refl _ _⟩
  case round =>
    obtain ⟨i, c, hi, hc, rfl, rfl, rfl, hs, hB⟩ := hrel
    by_cases hlt : i < M
    · have ht : (i : Int) < (M : Int) := by omega
      obtain ⟨hd, hn⟩ := add_digit b D i c hs
      rw [hDa] at hd
      have d1 := dg_lt a i
      have d2 := dg_lt b i
      have d3 := dg_lt D i
      have w1 : IntKind.i64.wrap ((dg a i : Int) - (dg b i : Int)) = (dg a i : Int) - (dg b i : Int) := IntWalk.i64_in _ (by omega)
      have w2 : IntKind.i64.wrap ((dg a i : Int) - (dg b i : Int) - (c : Int)) = (dg a i : Int) - (dg b i : Int) - (c : Int) := IntWalk.i64_in _ (by omega)
      have hz := dd_length D i
      have hcv := fun W => conv_one W (dg D i) d3
      by_cases hneg : (dg a i : Int) - (dg b i : Int) - (c : Int) < 0
      · have q : (dg b i + dg D i + c) / 10 = 1 := by omega
        have q2 : (dg a i : Int) - (dg b i : Int) - (c : Int) + 10 = (dg D i : Int) := by omega
        clear hs
        go_wp2_with (go_at_call 79; refine (at_any _ _ _ (by assumption)).mono ?_; rintro e w1 ⟨rfl, rfl⟩)
        refine ⟨⟨i + 1, 1, by omega, by omega, by rw [dd_1], rfl, rfl, ?_, hB.alloc hB.size _⟩, by simp [intOf]; omega⟩
        rw [hn, q]
      · have q : (dg b i + dg D i + c) / 10 = 0 := by omega
        have q2 : (dg a i : Int) - (dg b i : Int) - (c : Int) = (dg D i : Int) := by omega
        have hneg2 : ¬ ((dg D i : Int) < 0) := by omega
        clear hs
        go_wp2_with (go_at_call 79; refine (at_any _ _ _ (by assumption)).mono ?_; rintro e w1 ⟨rfl, rfl⟩)
        refine ⟨⟨i + 1, 0, by omega, by omega, by rw [dd_1], rfl, rfl, ?_, hB.alloc hB.size _⟩, by simp [intOf]; omega⟩
        rw [hn, q]
    · obtain rfl : i = M := by omega
      have BA := Lib.hid (fun w => bare_any D i w hDM (by omega))
      go_wp2_with (go_at_call 59; refine (BA.out _).mono ?_; rintro e w1 ⟨rfl, rfl⟩)
      go_ret
      exact ⟨rfl, hB⟩
end Go.Proofs.Ytkcogoibaodbeaa
namespace Go.Proofs.Ytkcogoibaodbeaa
open Go.RowKit
attribute [local go_sem] ByteArray.mk_append_mk ByteArray.extract_mk
theorem dl_shift {r : Nat} (i : Nat) (h : r ≠ 0) : dl (r * 10 ^ i) = dl r + i := by
  induction i with
  | zero => rw [Nat.pow_zero, Nat.mul_one, Nat.add_zero]
  | succ i ih =>
    have h1 : 10 ≤ r * 10 ^ (i + 1) := by
      have := Nat.pow_pos (n := i) (show 0 < 10 by decide)
      have h2 : 0 < r * 10 ^ i := Nat.mul_pos (Nat.pos_of_ne_zero h) this
      rw [Nat.pow_succ, ← Nat.mul_assoc]; omega
    rw [dl_step h1, Nat.pow_succ, ← Nat.mul_assoc, Nat.mul_div_cancel _ (by decide), ih, Nat.add_assoc]
theorem ds_shift {r : Nat} (i : Nat) (h : r ≠ 0) : ds r ++ List.replicate i 48 = ds (r * 10 ^ i) := by
  unfold ds
  rw [dd_zeros, dd_shift, dl_shift i h]
theorem dl_le_of {n k : Nat} (hk : 1 ≤ k) (h : n < 10 ^ k) : dl n ≤ k := (dl_le_iff n k hk).2 h
theorem dl_mul {a b : Nat} : dl (a * b) ≤ dl a + dl b := by
  refine dl_le_of (by have := dl_pos a; omega) ?_
  rw [Nat.pow_add]
  exact Nat.mul_lt_mul'' (lt_pow_dl a) (lt_pow_dl b)
theorem zeros_dd (n : Nat) (w : World) (hn : n ≤ 1000) :
    Calls Try.prog 49 #[.int .i64 n] w fun e w' => e = .returned (.string ⟨(dd 0 n).toArray⟩) ∧ Below w.heap.size w w' := by
  rw [← dd_zeros]; exact zeros_any n w hn
attribute [local irreducible] ds dd
theorem ds_ne {r : Nat} (h : r ≠ 0) : ds r ≠ [48] := fun e => h (ds_48.1 e)
set_option maxRecDepth 100000 in
set_option maxHeartbeats 2000000 in
theorem product_any (a b : Nat) (w : World) (ha : dl a ≤ 100) (hb : dl b ≤ 100) :
    Calls Try.prog 68 #[.string ⟨(ds a).toArray⟩, .string ⟨(ds b).toArray⟩] w fun e w' => e = .returned (.string ⟨(ds (a * b)).toArray⟩) ∧ Below w.heap.size w w' := by
  have za := ds_length a
  have zb := ds_length b
  have hb' : dl b ≤ 1000 := by omega
  have hmul : ∀ x y, x ≤ a → y ≤ b → dl (x * y) ≤ 200 := fun x y hx hy => by
    have h1 := dl_mul (a := x) (b := y)
    have h2 := dl_mono hx
    have h3 := dl_mono hy
    omega
  go_enter Try.func68, Try.ntmps68
  go_wp2
  go_loopw [5, 10] (fun s5 s10 W => ∃ i : Nat, i ≤ dl b ∧ s5 = .string ⟨(ds (a * (b % 10 ^ i))).toArray⟩ ∧ s10 = .int .i64 (i : Int) ∧ Below w.heap.size w W) (fun _ s10 _ => dl b - (intOf s10).toNat)
  case atStart => exact ⟨0, by omega, by rw [Nat.pow_zero, Nat.mod_one, Nat.mul_zero, ds_zero], rfl, Below.refl _ _⟩
  case round =>
    obtain ⟨i, hi, rfl, rfl, hB⟩ := hrel
    by_cases hlt : i < dl b
    · have ht : (i : Int) < ((dl b : Nat) : Int) := by omega
      have d1 := dg_lt b i
      obtain ⟨m, hm⟩ : ∃ m, dg b i = m := ⟨_, rfl⟩
      have hmb : m * 10 ^ i ≤ b := by
        have h1 : m ≤ b / 10 ^ i := by rw [← hm]; exact Nat.mod_le _ _
        exact Nat.le_trans (Nat.mul_le_mul_right _ h1) (Nat.div_mul_le_self _ _)
      have hstep : a * (b % 10 ^ (i + 1)) = a * (b % 10 ^ i) + a * m * 10 ^ i := by
        rw [modp_succ, Nat.mul_add, hm]
        rw [Nat.mul_comm (10 ^ i) m, Nat.mul_assoc]
      have hbig1 : dl (a * (b % 10 ^ i)) ≤ 500 := Nat.le_trans (hmul a (b % 10 ^ i) (Nat.le_refl _) (Nat.mod_le _ _)) (by decide)
      have hbig2 : dl (a * m * 10 ^ i) ≤ 500 := by rw [Nat.mul_assoc]; exact Nat.le_trans (hmul a _ (Nat.le_refl _) hmb) (by decide)
      have hmb2 : m ≤ b := Nat.le_trans (Nat.le_mul_of_pos_right _ (Nat.pow_pos (by decide))) hmb
      rw [hm] at d1
      have AT : ∀ w, Calls Try.prog 79 #[.string ⟨(ds b).toArray⟩, .int .i64 i] w fun e w' => e = .returned (.int .i64 m) ∧ w' = w := fun w => by rw [← hm]; exact at_any b i w hb'
      have AT' := Lib.hid AT
      clear AT hm
      go_wp2_with (go_at_call 79; refine (AT'.out _).mono ?_; rintro e w1 ⟨rfl, rfl⟩)
      go_loopw [7, 16] (fun s7 s16 W => ∃ j : Nat, j ≤ m ∧ s7 = .string ⟨(ds (a * j)).toArray⟩ ∧ s16 = .int .i64 (j : Int) ∧ Below w.heap.size w W) (fun _ s16 _ => m - (intOf s16).toNat)
      case atStart => exact ⟨0, by omega, by rw [Nat.mul_zero, ds_zero], rfl, hB⟩
      case round =>
        obtain ⟨j, hj, rfl, rfl, hB2⟩ := hrel
        by_cases hjm : j < m
        · have hjt : (j : Int) < (m : Int) := by omega
          have SU := Lib.hid (fun w => sum_any (a * j) a w (Nat.le_trans (hmul a j (Nat.le_refl _) (by omega)) (by decide)) (by omega))
          go_wp2_with (go_at_call 48; refine (SU.out _).mono ?_; rintro e w1 ⟨rfl, hb1⟩; have hB3 := hB2.trans (hb1.mono hB2.size))
          exact ⟨⟨j + 1, by omega, by rw [Nat.mul_succ], rfl, hB3⟩, by simp [intOf]; omega⟩
        · obtain rfl : j = m := by omega
          by_cases h0 : a * j = 0
          · have hs : (ds 0 == [48]) = true := by rw [ds_zero]; rfl
            have hst2 : a * (b % 10 ^ (i + 1)) = a * (b % 10 ^ i) := by rw [hstep, h0, Nat.zero_mul, Nat.add_zero]
            go_wp2
            exact ⟨⟨i + 1, by omega, by rw [hst2], rfl, hB2⟩, by simp [intOf]; omega⟩
          · have hs : (ds (a * j) == [48]) = false := by rw [beq_eq_false_iff_ne]; exact ds_ne h0
            have hz2 := ds_length (a * j)
            have hz4 := dd_length 0 i
            have hz3 : dl (a * j) ≤ 200 := hmul a j (Nat.le_refl _) (by omega)
            have SU := Lib.hid (fun w => sum_any (a * (b % 10 ^ i)) (a * j * 10 ^ i) w hbig1 hbig2)
            have ZE := Lib.hid (fun w => zeros_dd i w (by omega))
            have hsh : ds (a * j) ++ dd 0 i = ds (a * j * 10 ^ i) := by rw [← dd_zeros]; exact ds_shift i h0
            go_wp2_with (first
              | (go_at_call 49; refine (ZE.out _).mono ?_; rintro e w1 ⟨rfl, hb1⟩; have hB3 := hB2.trans (hb1.mono hB2.size))
              | (go_at_call 48; refine (SU.out _).mono ?_; rintro e w2 ⟨rfl, hb2⟩; have hB4 := hB3.trans (hb2.mono hB3.size)))
            exact ⟨⟨i + 1, by omega, by rw [hstep], rfl, hB4⟩, by simp [intOf]; omega⟩
    · obtain rfl : i = dl b := by omega
      have e : b % 10 ^ dl b = b := Nat.mod_eq_of_lt (lt_pow_dl b)
      rw [e]
      go_wp2
      go_ret
      exact ⟨rfl, hB⟩
theorem quot_step (p b d : Nat) (hb : 0 < b) : (p * 10 + d) / b = p / b * 10 + (p % b * 10 + d) / b ∧ (p * 10 + d) % b = (p % b * 10 + d) % b := by
  have e : p * 10 + d = b * (p / b * 10) + (p % b * 10 + d) := by
    have := Nat.div_add_mod p b
    rw [← Nat.mul_assoc]
    omega
  rw [e]
  refine ⟨?_, ?_⟩
  · rw [Nat.mul_add_div hb]
  · rw [Nat.mul_add_mod]
theorem ds_at (a i : Nat) (h : i < dl a) : List.take 1 (List.drop i (ds a)) = [chr (dg a (dl a - 1 - i))] := by
  have e := dd_get a (dl a) (dl a - 1 - i) (by omega)
  rw [show dl a - 1 - (dl a - 1 - i) = i by omega, List.getElem?_eq_some_iff] at e
  obtain ⟨h1, e⟩ := e
  have h2 : i < (ds a).length := by rw [ds_length]; exact h
  rw [List.drop_eq_getElem_cons h2]
  simp only [List.take_succ_cons, List.take_zero]
  congr 1
  unfold ds
  exact e
set_option maxRecDepth 100000 in
set_option maxHeartbeats 2000000 in
theorem quotient_any (a b : Nat) (w : World) (ha : dl a ≤ 300) (hb : dl b ≤ 300) (hb0 : 0 < b) :
    Calls Try.prog 73 #[.string ⟨(ds a).toArray⟩, .string ⟨(ds b).toArray⟩] w fun e w' => e = .returned (.tuple #[.string ⟨(ds (a / b)).toArray⟩, .string ⟨(ds (a % b)).toArray⟩]) ∧ Below w.heap.size w w' := by
  have za := ds_length a
  have zb := ds_length b
  obtain ⟨L, hL⟩ : ∃ L, dl a = L := ⟨_, rfl⟩
  have hsl0 := ds_at a
  rw [hL] at za hsl0 ha
  have hL1 : ((dl a : Nat) : Int) = (L : Int) := by omega
  have haL : a < 10 ^ L := by rw [← hL]; exact lt_pow_dl a
  go_enter Try.func73, Try.ntmps73
  go_wp2
  go_loopw [6, 7, 12] (fun s6 s7 s12 W => ∃ i p : Nat, i ≤ L ∧ p = a / 10 ^ (L - i) ∧ s6 = .string ⟨(dd (p / b) i).toArray⟩ ∧ s7 = .string ⟨(ds (p % b)).toArray⟩ ∧ s12 = .int .i64 (i : Int) ∧ Below w.heap.size w W) (fun _ _ s12 _ => L - (intOf s12).toNat)
  case atStart => exact ⟨0, 0, by omega, by rw [Nat.sub_zero, Nat.div_eq_of_lt haL], by rw [dd_0], by rw [Nat.zero_mod, ds_zero], rfl, Below.refl _ _⟩
  case round =>
    obtain ⟨i, p, hi, hp, rfl, rfl, rfl, hB⟩ := hrel
    by_cases hlt : i < L
    · have ht : (i : Int) < (L : Int) := by omega
      have hsl := hsl0 i hlt
      obtain ⟨d, hd⟩ : ∃ d, dg a (L - 1 - i) = d := ⟨_, rfl⟩
      rw [hd] at hsl
      have hd10 : d < 10 := by rw [← hd]; exact dg_lt _ _
      have hp' : a / 10 ^ (L - (i + 1)) = p * 10 + d := by
        rw [hp, ← hd, show L - (i + 1) = L - 1 - i by omega]
        unfold dg
        have e : 10 ^ (L - i) = 10 ^ (L - 1 - i) * 10 := by rw [← Nat.pow_succ]; congr 1; omega
        rw [e, ← Nat.div_div_eq_div_mul]
        omega
      clear hd
      obtain ⟨r, hr⟩ : ∃ r, p % b = r := ⟨_, rfl⟩
      obtain ⟨q, hq⟩ : ∃ q, p / b = q := ⟨_, rfl⟩
      obtain ⟨hs1, hs2⟩ := quot_step p b d hb0
      rw [hr, hq] at hs1
      rw [hr] at hs2 ⊢
      rw [hq]
      have hrb : r < b := by rw [← hr]; exact Nat.mod_lt _ hb0
      have hrd : dl r ≤ 300 := Nat.le_trans (dl_mono (Nat.le_of_lt hrb)) hb
      have hcat : ds r ++ [chr d] = dd (r * 10 + d) (dl r + 1) := by unfold ds; rw [dd_snoc _ _ _ hd10]
      have hr1 : r * 10 + d < 10 ^ (dl r + 1) := by have := lt_pow_dl r; rw [Nat.pow_succ]; omega
      have BA := Lib.hid (fun w => bare_any (r * 10 + d) (dl r + 1) w hr1 (by omega))
      have zr := ds_length r
      have wi : IntKind.i64.wrap ((i : Int) + 1) = (i : Int) + 1 := IntWalk.i64_in _ (by omega)
      obtain ⟨R, hR⟩ : ∃ R, r * 10 + d = R := ⟨_, rfl⟩
      rw [hR] at hs1 hs2 BA hcat hr1
      have hRb : R < 10 * b := by omega
      have hRd : dl R ≤ 301 := Nat.le_trans (dl_le_of (by omega) hr1) (by omega)
      clear hr hq hsl0
      go_wp2_with (go_at_call 59; refine (BA.out _).mono ?_; rintro e w1 ⟨rfl, rfl⟩)
      go_loopw [7, 9] (fun s7 s9 W => ∃ n : Nat, n * b ≤ R ∧ s7 = .string ⟨(ds (R - n * b)).toArray⟩ ∧ s9 = .int .i64 (n : Int) ∧ Below w.heap.size w W) (fun _ s9 _ => 10 - (intOf s9).toNat)
      case atStart => exact ⟨0, by omega, by rw [Nat.zero_mul, Nat.sub_zero], rfl, hB⟩
      case round =>
        obtain ⟨n, hn, rfl, rfl, hB2⟩ := hrel
        have hn10 : n < 10 := by
          rcases Nat.lt_or_ge n 10 with h | h
          · exact h
          · have := Nat.mul_le_mul_right b h
            omega
        obtain ⟨X, hX⟩ : ∃ X, R - n * b = X := ⟨_, rfl⟩
        have hXd : dl X ≤ 301 := Nat.le_trans (dl_mono (show X ≤ R by omega)) hRd
        rw [hX]
        have LE : ∀ w, Calls Try.prog 86 #[.string ⟨(ds X).toArray⟩, .string ⟨(ds b).toArray⟩] w fun e w' => e = .returned (.bool (decide (X < b))) ∧ w' = w := fun w => less_any X b w (by omega) (by omega)
        by_cases hXb : X < b
        · have hq2 : R / b = n := by
            rw [Nat.div_eq_iff hb0]
            have : n * b + b = (n + 1) * b := by rw [Nat.succ_mul]
            omega
          have hr2 : R % b = X := by
            have := Nat.div_add_mod R b
            rw [hq2, Nat.mul_comm] at this
            omega
          rw [decide_eq_true hXb] at LE
          have LE' := Lib.hid LE
          clear LE
          rw [hq2] at hs1
          rw [hr2] at hs2
          have hcv := fun W => conv_one W n hn10
          have wn : IntKind.i64.wrap ((n : Int) + 1) = (n : Int) + 1 := IntWalk.i64_in _ (by omega)
          have hdz := dd_length q i
          have hsn : dd q i ++ [chr n] = dd ((p * 10 + d) / b) (i + 1) := by rw [hs1, dd_snoc _ _ _ hn10]
          clear hcat
          go_wp2_with (go_at_call 86; refine (LE'.out _).mono ?_; rintro e w1 ⟨rfl, rfl⟩)
          refine ⟨⟨i + 1, p * 10 + d, by omega, hp'.symm, ?_, ?_, rfl, hB2.alloc hB2.size _⟩, by simp [intOf]; omega⟩
          · rw [← hp]
          · rw [hs2]
        · have hsb : (n + 1) * b ≤ R := by rw [Nat.succ_mul]; omega
          have hXe : X - b = R - (n + 1) * b := by rw [Nat.succ_mul]; omega
          have hn9 : n + 1 < 10 := by
            rcases Nat.lt_or_ge (n + 1) 10 with h | h
            · exact h
            · have := Nat.mul_le_mul_right b h
              omega
          rw [decide_eq_false hXb] at LE
          have LE' := Lib.hid LE
          clear LE
          have DI := Lib.hid (fun w => difference_any X b w (by omega) (by omega))
          have wn : IntKind.i64.wrap ((n : Int) + 1) = (n : Int) + 1 := IntWalk.i64_in _ (by omega)
          clear hcat
          go_wp2_with (first
            | (go_at_call 86; refine (LE'.out _).mono ?_; rintro e w1 ⟨rfl, rfl⟩)
            | (go_at_call 87; refine (DI.out _).mono ?_; rintro e w2 ⟨rfl, hb2⟩; have hB3 := hB2.trans (hb2.mono hB2.size)))
          exact ⟨⟨n + 1, hsb, rfl, rfl, hB3⟩, by simp [intOf]; omega⟩
    · obtain rfl : i = L := by omega
      have e : p = a := by rw [hp, Nat.sub_self, Nat.pow_zero, Nat.div_one]
      subst e
      have hq : p / b < 10 ^ i := Nat.lt_of_le_of_lt (Nat.div_le_self _ _) haL
      have BA := Lib.hid (fun w => bare_any (p / b) i w hq (by omega))
      clear hp
      go_wp2_with (go_at_call 59; refine (BA.out _).mono ?_; rintro e w1 ⟨rfl, rfl⟩)
      go_ret2
      exact ⟨rfl, hB⟩
end Go.Proofs.Ytkcogoibaodbeaa
