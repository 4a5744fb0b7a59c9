/- The references' Cut, Fits, To, Length. The references' To, Length, Round. The references' Round. -/
import Derived.Test.YtkcogoibaodbeaaRefJ
import Derived.Test.YtkcogoibaodbeaaAllD
set_option linter.unusedVariables false
set_option linter.unusedSimpArgs false
namespace Go.Proofs.Ytkcogoibaodbeaa
open Go.RowKit
attribute [local irreducible] ds dd txt
theorem read_y {l : List UInt8} (w : World) (hl : l.length ≤ 500) (h : parseB l = true) :
    Calls Try.prog 41 #[.string ⟨l.toArray⟩] w fun e w' => e = .returned (.tuple #[.agg (rcells (negOf l) (uOf l) (sOf l)), .bool true]) ∧ Below w.heap.size w w' := by
  have := read_all l w hl
  rw [show readR l = #[.agg (rcells (negOf l) (uOf l) (sOf l)), .bool true] from if_pos h] at this
  exact this
theorem read_n {l : List UInt8} (w : World) (hl : l.length ≤ 500) (h : parseB l = false) :
    Calls Try.prog 41 #[.string ⟨l.toArray⟩] w fun e w' => e = .returned (.tuple #[.agg rzero, .bool false]) ∧ Below w.heap.size w w' := by
  have := read_all l w hl
  rw [show readR l = #[.agg rzero, .bool false] from if_neg (by rw [h]; decide)] at this
  exact this
theorem rscaled_any (t : Int) (w : World) :
    Calls Try.prog 42 #[.int .i64 t] w fun e w' => e = .returned (.bool (decide (0 ≤ t ∧ t ≤ 31))) ∧ w' = w := by
  by_cases h : 0 ≤ t ∧ t ≤ 31
  · rw [decide_eq_true h]
    obtain ⟨h1, h2⟩ := h
    go_enter Try.func42, Try.ntmps42
    go_wp2
    go_ret
    exact ⟨rfl, rfl⟩
  · rw [decide_eq_false h]
    rcases (show ¬ 0 ≤ t ∨ (0 ≤ t ∧ ¬ t ≤ 31) by omega) with h1 | ⟨h1, h2⟩
    all_goals
      clear h
      go_enter Try.func42, Try.ntmps42
      go_wp2
      go_ret
      exact ⟨rfl, rfl⟩
theorem ranged_any (d s : Int) (w : World) :
    Calls Try.prog 54 #[.int .i64 d, .int .i64 s] w fun e w' => e = .returned (.bool (fmB d s)) ∧ w' = w := by
  by_cases h : 1 ≤ d ∧ d ≤ 31 ∧ 0 ≤ s ∧ s ≤ d
  · rw [show fmB d s = true from decide_eq_true h]
    obtain ⟨h1, h2, h3, h4⟩ := h
    go_enter Try.func54, Try.ntmps54
    go_wp2
    go_ret
    exact ⟨rfl, rfl⟩
  · rw [show fmB d s = false from decide_eq_false h]
    rcases (show ¬ 1 ≤ d ∨ (1 ≤ d ∧ ¬ d ≤ 31) ∨ (1 ≤ d ∧ d ≤ 31 ∧ ¬ 0 ≤ s) ∨ (1 ≤ d ∧ d ≤ 31 ∧ 0 ≤ s ∧ ¬ s ≤ d) by omega) with h1 | ⟨h1, h2⟩ | ⟨h1, h2, h3⟩ | ⟨h1, h2, h3, h4⟩
    all_goals
      clear h
      go_enter Try.func54, Try.ntmps54
      go_wp2
      go_ret
      exact ⟨rfl, rfl⟩
theorem inside_any (n : Bool) (u s : Nat) (d : Int) (w : World) (hd : 1 ≤ d) :
    Calls Try.prog 55 #[.agg (rcells n u s), .int .i64 d] w fun e w' => e = .returned (.bool (decide ((dl u : Int) ≤ d))) ∧ Below w.heap.size w w' := by
  have zu := ds_length u
  have hb := ds_beq u
  by_cases h0 : u = 0
  · subst h0
    rw [show dl 0 = 1 from dl_lt10 (by decide), decide_eq_true (show ((1 : Nat) : Int) ≤ d by omega)]
    have hb' : (ds 0 == [48]) = true := by rw [hb]; rfl
    clear hb zu
    go_enter Try.func55, Try.ntmps55
    go_wp2
    go_ret
    exact ⟨rfl, (Below.refl _ _).alloc (Nat.le_refl _) _⟩
  · have hb' : (ds u == [48]) = false := by rw [hb]; simpa using h0
    clear hb
    go_enter Try.func55, Try.ntmps55
    go_wp2
    go_ret
    exact ⟨rfl, (Below.refl _ _).alloc (Nat.le_refl _) _⟩
theorem Good.sdl {l : List UInt8} (h : parseB l = true) (t : Nat) (ht : t ≤ 31) : dl (scU (uOf l) (sOf l) t) ≤ 62 := by
  obtain ⟨g, _⟩ := parseB_good h
  exact dl_le_of (by decide) (sc_lt g.u31 ht)
set_option maxRecDepth 100000 in
set_option maxHeartbeats 2000000 in
theorem rcut_all (l : List UInt8) (t : Int) (w : World) (hl : l.length ≤ 500) :
    Calls Try.prog 11 #[.string ⟨l.toArray⟩, .int .i64 t] w fun e w' => e = .returned (.tuple #[.string ⟨(cutR l t).1.toArray⟩, .int .i64 (cutR l t).2]) ∧ Below w.heap.size w w' := by
  cases hp : parseB l with
  | false =>
    rw [cutR_no (Or.inl hp), hp]
    have RN := Lib.hid (fun w => read_n w hl hp)
    clear hl hp
    go_enter Try.func11, Try.ntmps11
    go_wp2_with (go_at_call 41; refine (RN.out _).mono ?_; rintro e w1 ⟨rfl, hb⟩; have K1 := (Blk.nil w).kept hb; clear hb)
    go_ret2
    exact ⟨rfl, (K1.more _).below⟩
  | true =>
    have RY := Lib.hid (fun w => read_y w hl hp)
    obtain ⟨g, _⟩ := parseB_good hp
    have SC := fun w => rscaled_any t w
    by_cases h : 0 ≤ t ∧ t ≤ 31
    · rw [decide_eq_true h] at SC
      have SC' := Lib.hid SC
      obtain ⟨n, rfl⟩ : ∃ n : Nat, t = n := ⟨t.toNat, by omega⟩
      have e : cutR l n = wholeR (negOf l) (scU (uOf l) (sOf l) n) n := by
        unfold cutR; rw [if_pos hp, if_pos h, Int.toNat_natCast]
      rw [e]
      have hd := Good.sdl hp n (by omega)
      have s31 : sOf l ≤ 31 := g.s31
      have u31 : dl (uOf l) ≤ 31 := g.u31
      have CU := Lib.hid (fun w => rcut_any (negOf l) (uOf l) (sOf l) n w (by omega) (by omega) (by omega))
      have WH := Lib.hid (fun w => rwhole_any (negOf l) (scU (uOf l) (sOf l) n) n w (by omega) (by omega))
      clear SC hl hp e g h hd s31 u31
      generalize negOf l = N at *
      generalize uOf l = U at *
      generalize sOf l = S at *
      generalize scU U S n = X at *
      go_enter Try.func11, Try.ntmps11
      go_wp2_with (first
        | (go_at_call 41; refine (RY.out _).mono ?_; rintro e w1 ⟨rfl, hb⟩; have K1 := (Blk.nil w).kept hb; clear hb)
        | (go_at_call 42; refine (SC'.out _).mono ?_; rintro e w2 ⟨rfl, rfl⟩)
        | (go_at_call 44; refine (CU.out _).mono ?_; rintro e w3 ⟨rfl, hb⟩; have K3 := (K1.more _).kept hb; clear hb)
        | (go_at_call 43; refine (WH.out _).mono ?_; rintro e w4 ⟨rfl, hb⟩; have K4 := K3.kept hb; clear hb))
      go_ret2
      exact ⟨rfl, K4.below⟩
    · rw [decide_eq_false h] at SC
      have SC' := Lib.hid SC
      rw [cutR_no (Or.inr h), hp]
      clear SC hl hp g h
      go_enter Try.func11, Try.ntmps11
      go_wp2_with (first
        | (go_at_call 41; refine (RY.out _).mono ?_; rintro e w1 ⟨rfl, hb⟩; have K1 := (Blk.nil w).kept hb; clear hb)
        | (go_at_call 42; refine (SC'.out _).mono ?_; rintro e w2 ⟨rfl, rfl⟩))
      go_ret2
      exact ⟨rfl, (K1.more _).below⟩
set_option maxRecDepth 100000 in
set_option maxHeartbeats 2000000 in
theorem rfits_all (l : List UInt8) (d s : Int) (w : World) (hl : l.length ≤ 500) :
    Calls Try.prog 15 #[.string ⟨l.toArray⟩, .int .i64 d, .int .i64 s] w fun e w' => e = .returned (.bool (fitsR l d s)) ∧ Below w.heap.size w w' := by
  unfold fitsR
  cases hp : parseB l with
  | false =>
    have RN := Lib.hid (fun w => read_n w hl hp)
    clear hl hp
    go_enter Try.func15, Try.ntmps15
    go_wp2_with (go_at_call 41; refine (RN.out _).mono ?_; rintro e w1 ⟨rfl, hb⟩; have K1 := (Blk.nil w).kept hb; clear hb)
    go_ret
    exact ⟨rfl, (K1.more _).below⟩
  | true =>
    have RY := Lib.hid (fun w => read_y w hl hp)
    have RA := fun w => ranged_any d s w
    clear hl hp
    generalize negOf l = N at *
    generalize uOf l = U at *
    generalize sOf l = S at *
    cases hf : fmB d s with
    | false =>
      rw [hf] at RA
      have RA' := Lib.hid RA
      clear RA hf
      go_enter Try.func15, Try.ntmps15
      go_wp2_with (first
        | (go_at_call 41; refine (RY.out _).mono ?_; rintro e w1 ⟨rfl, hb⟩; have K1 := (Blk.nil w).kept hb; clear hb)
        | (go_at_call 54; refine (RA'.out _).mono ?_; rintro e w2 ⟨rfl, rfl⟩))
      go_ret
      exact ⟨rfl, (K1.more _).below⟩
    | true =>
      have hd : 1 ≤ d := by unfold fmB at hf; rw [decide_eq_true_eq] at hf; exact hf.1
      rw [hf] at RA
      have RA' := Lib.hid RA
      have IN := Lib.hid (fun w => inside_any N U S d w hd)
      clear RA hf
      by_cases hs : (S : Int) = s
      · subst hs
        rw [decide_eq_true rfl]
        go_enter Try.func15, Try.ntmps15
        go_wp2_with (first
          | (go_at_call 41; refine (RY.out _).mono ?_; rintro e w1 ⟨rfl, hb⟩; have K1 := (Blk.nil w).kept hb; clear hb)
          | (go_at_call 54; refine (RA'.out _).mono ?_; rintro e w2 ⟨rfl, rfl⟩)
          | (go_at_call 55; refine (IN.out _).mono ?_; rintro e w3 ⟨rfl, hb⟩; have K3 := (K1.more _).kept hb; clear hb))
        go_ret
        exact ⟨rfl, K3.below⟩
      · rw [decide_eq_false hs]
        have hs' : ((S : Int) == s) = false := by simpa using hs
        go_enter Try.func15, Try.ntmps15
        go_wp2_with (first
          | (go_at_call 41; refine (RY.out _).mono ?_; rintro e w1 ⟨rfl, hb⟩; have K1 := (Blk.nil w).kept hb; clear hb)
          | (go_at_call 54; refine (RA'.out _).mono ?_; rintro e w2 ⟨rfl, rfl⟩))
        go_ret
        exact ⟨rfl, (K1.more _).below⟩
end Go.Proofs.Ytkcogoibaodbeaa
namespace Go.Proofs.Ytkcogoibaodbeaa
open Go.RowKit
attribute [local go_sem] ByteArray.mk_append_mk ByteArray.extract_mk
theorem five_dd (k : Nat) : 53 :: dd 0 k = ds (5 * 10 ^ k) := by
  have h := dd_shift 5 1 k
  have h2 : dl (5 * 10 ^ k) = 1 + k := by rw [dl_shift k (by decide), dl_lt10 (by decide)]
  unfold ds
  rw [h2, ← h]
  rfl
theorem round_pure (u s t : Nat) (h : t < s) : (u + 5 * 10 ^ (s - t - 1)) / 10 ^ (s - t) = roundU u s t := by
  obtain ⟨k, hk⟩ : ∃ k, s - t - 1 = k := ⟨_, rfl⟩
  have e : s - t = k + 1 := by omega
  unfold roundU
  rw [scU_dn h, e, show k + 1 - 1 = k by omega, Nat.pow_succ, ← Nat.div_div_eq_div_mul, ← Nat.div_div_eq_div_mul, Nat.add_mul_div_right _ _ (Nat.pow_pos (by decide))]
  unfold dg
  by_cases h5 : 5 ≤ u / 10 ^ k % 10
  · rw [if_pos ⟨h, h5⟩]; omega
  · rw [if_neg (fun e => h5 e.2)]; omega
theorem round_cut (u s t : Nat) : (if t < s then scU (u + 5 * 10 ^ (s - t - 1)) s t else scU u s t) = roundU u s t := by
  by_cases h : t < s
  · rw [if_pos h, scU_dn h, round_pure u s t h]
  · rw [if_neg h]; unfold roundU; rw [if_neg (fun e => h e.1)]
attribute [local irreducible] ds dd txt
set_option maxRecDepth 100000 in
set_option maxHeartbeats 2000000 in
theorem rto_all (l : List UInt8) (d s : Int) (w : World) (hl : l.length ≤ 500) :
    Calls Try.prog 17 #[.string ⟨l.toArray⟩, .int .i64 d, .int .i64 s] w fun e w' => e = .returned (.tuple #[.string ⟨(toR l d s).1.toArray⟩, .int .i64 (toR l d s).2]) ∧ Below w.heap.size w w' := by
  cases hp : parseB l with
  | false =>
    rw [show toR l d s = ([], 2) from if_neg (by rw [hp]; decide)]
    have RN := Lib.hid (fun w => read_n w hl hp)
    clear hl hp
    go_enter Try.func17, Try.ntmps17
    go_wp2_with (go_at_call 41; refine (RN.out _).mono ?_; rintro e w1 ⟨rfl, hb⟩; have K1 := (Blk.nil w).kept hb; clear hb)
    go_ret2
    exact ⟨rfl, (K1.more _).below⟩
  | true =>
    have RY := Lib.hid (fun w => read_y w hl hp)
    have RA := fun w => ranged_any d s w
    cases hf : fmB d s with
    | false =>
      rw [show toR l d s = ([], 7) by unfold toR; rw [if_pos hp, if_neg (by rw [hf]; decide)]]
      rw [hf] at RA
      have RA' := Lib.hid RA
      clear RA hp hl hf
      go_enter Try.func17, Try.ntmps17
      go_wp2_with (first
        | (go_at_call 41; refine (RY.out _).mono ?_; rintro e w1 ⟨rfl, hb⟩; have K1 := (Blk.nil w).kept hb; clear hb)
        | (go_at_call 54; refine (RA'.out _).mono ?_; rintro e w2 ⟨rfl, rfl⟩))
      go_ret2
      exact ⟨rfl, (K1.more _).below⟩
    | true =>
      obtain ⟨d1, d2, d3, d4⟩ := fmB_of hf
      obtain ⟨n, rfl⟩ : ∃ n : Nat, s = n := ⟨s.toNat, by omega⟩
      obtain ⟨g, _⟩ := parseB_good hp
      have hd := Good.sdl hp n (by omega)
      have s31 : sOf l ≤ 31 := g.s31
      have u31 : dl (uOf l) ≤ 31 := g.u31
      have et : toR l d n = if (dl (scU (uOf l) (sOf l) n) : Int) ≤ d then (txt (negOf l) (scU (uOf l) (sOf l) n) n, 0) else ([], 4) := by unfold toR; rw [if_pos hp, if_pos hf, Int.toNat_natCast]
      rw [et]
      rw [hf] at RA
      have CU := Lib.hid (fun w => rcut_any (negOf l) (uOf l) (sOf l) n w (by omega) (by omega) (by omega))
      have TX := Lib.hid (fun w => rtext_any (negOf l) (scU (uOf l) (sOf l) n) n w (by omega) (by omega))
      have IN := fun w => inside_any (sgn (negOf l) (scU (uOf l) (sOf l) n)) (scU (uOf l) (sOf l) n) n d w d1
      have RA' := Lib.hid RA
      clear RA hp hl hf hd s31 u31 g et
      generalize scU (uOf l) (sOf l) n = X at *
      generalize negOf l = N at *
      generalize uOf l = U at *
      generalize sOf l = S at *
      by_cases hX : (dl X : Int) ≤ d
      · rw [if_pos hX]
        rw [decide_eq_true hX] at IN
        have IN' := Lib.hid IN
        clear IN
        go_enter Try.func17, Try.ntmps17
        go_wp2_with (first
          | (go_at_call 41; refine (RY.out _).mono ?_; rintro e w1 ⟨rfl, hb⟩; have K1 := (Blk.nil w).kept hb; clear hb)
          | (go_at_call 54; refine (RA'.out _).mono ?_; rintro e w2 ⟨rfl, rfl⟩)
          | (go_at_call 44; refine (CU.out _).mono ?_; rintro e w3 ⟨rfl, hb⟩; have K3 := (K1.more _).kept hb; clear hb; have X3 := (Blk.nil w3).lay rfl (rcells (sgn N X) X n) 50)
          | (go_at_call 55; refine (IN'.out _).mono ?_; rintro e w4 ⟨rfl, hb⟩; have K4 := (K3.more _).kept hb; have X4 := X3.kept hb; clear hb; have r4 : rowOf _ (w3.heap.size) = _ := X4.row 0 _ rfl)
          | (go_at_call 57; refine (TX.out _).mono ?_; rintro e w5 ⟨rfl, hb⟩; have K5 := K4.kept hb; clear hb))
        go_ret2
        exact ⟨rfl, K5.below⟩
      · rw [if_neg hX]
        rw [decide_eq_false hX] at IN
        have IN' := Lib.hid IN
        clear IN
        go_enter Try.func17, Try.ntmps17
        go_wp2_with (first
          | (go_at_call 41; refine (RY.out _).mono ?_; rintro e w1 ⟨rfl, hb⟩; have K1 := (Blk.nil w).kept hb; clear hb)
          | (go_at_call 54; refine (RA'.out _).mono ?_; rintro e w2 ⟨rfl, rfl⟩)
          | (go_at_call 44; refine (CU.out _).mono ?_; rintro e w3 ⟨rfl, hb⟩; have K3 := (K1.more _).kept hb; clear hb; have X3 := (Blk.nil w3).lay rfl (rcells (sgn N X) X n) 50)
          | (go_at_call 55; refine (IN'.out _).mono ?_; rintro e w4 ⟨rfl, hb⟩; have K4 := (K3.more _).kept hb; have X4 := X3.kept hb; clear hb; have r4 : rowOf _ (w3.heap.size) = _ := X4.row 0 _ rfl))
        go_ret2
        exact ⟨rfl, K4.below⟩
set_option maxRecDepth 100000 in
set_option maxHeartbeats 2000000 in
theorem rlength_all (d : Int) (w : World) :
    Calls Try.prog 21 #[.int .i64 d] w fun e w' => e = .returned (.tuple #[.int .i64 (lenR d).1, .int .i64 (lenR d).2]) ∧ w' = w := by
  unfold lenR fmB
  by_cases h1 : d < 1
  · rw [if_neg (by simp; omega)]
    go_enter Try.func21, Try.ntmps21
    go_wp2
    go_ret2
    exact ⟨rfl, rfl⟩
  · by_cases h2 : 31 < d
    · rw [if_neg (by simp; omega)]
      go_enter Try.func21, Try.ntmps21
      go_wp2
      go_ret2
      exact ⟨rfl, rfl⟩
    · rw [if_pos (by simp; omega)]
      have w1 : IntKind.i64.wrap (d / 2) = d / 2 := IntWalk.i64_in _ (by omega)
      have w2 : IntKind.i64.wrap (d / 2 + 1) = d / 2 + 1 := IntWalk.i64_in _ (by omega)
      have e1 : d.tdiv 2 = d / 2 := Int.tdiv_eq_ediv_of_nonneg (by omega)
      go_enter Try.func21, Try.ntmps21
      go_wp2
      go_ret2
      exact ⟨rfl, rfl⟩
end Go.Proofs.Ytkcogoibaodbeaa
namespace Go.Proofs.Ytkcogoibaodbeaa
open Go.RowKit
attribute [local go_sem] ByteArray.mk_append_mk ByteArray.extract_mk
attribute [local irreducible] ds dd txt
set_option maxRecDepth 100000 in
set_option maxHeartbeats 8000000 in
theorem rround_dn (l : List UInt8) (N : Bool) (U S t : Nat) (w : World)
    (RY : (∀ w, Calls Try.prog 41 #[.string ⟨l.toArray⟩] w fun e w' => e = .returned (.tuple #[.agg (rcells N U S), .bool true]) ∧ Below w.heap.size w w')) (hU : dl U ≤ 31) (hS : S ≤ 31) (h : t < S) :
    Calls Try.prog 13 #[.string ⟨l.toArray⟩, .int .i64 t] w fun e w' => e = .returned (.tuple #[.string ⟨(wholeR N (roundU U S t) t).1.toArray⟩, .int .i64 (wholeR N (roundU U S t) t).2]) ∧ Below w.heap.size w w' := by
  obtain ⟨k, hk⟩ : ∃ k, S - t - 1 = k := ⟨_, rfl⟩
  have hk1 : (S : Int) - (t : Int) - 1 = (k : Int) := by omega
  have wk1 : IntKind.i64.wrap ((S : Int) - (t : Int)) = (S : Int) - (t : Int) := IntWalk.i64_in _ (by omega)
  have wk2 : IntKind.i64.wrap (k : Int) = (k : Int) := IntWalk.i64_in _ (by omega)
  have t1 : (t : Int) < (S : Int) := by omega
  have zk := dd_length 0 k
  have i1 : 1 + k ≤ 9223372036854775807 := by omega
  have five := five_dd k
  have hX : scU (U + 5 * 10 ^ k) S t = roundU U S t := by
    have := round_cut U S t
    rw [if_pos h, hk] at this
    exact this
  have hV : U + 5 * 10 ^ k < 10 ^ 32 := by
    have h1 : U < 10 ^ 31 := lt_of_dl hU (by decide)
    have h2 : 10 ^ k ≤ 10 ^ 30 := Nat.pow_le_pow_right (by decide) (by omega)
    have e1 : (10 : Nat) ^ 31 = 10 ^ 30 * 10 := by rw [← Nat.pow_succ]
    have e2 : (10 : Nat) ^ 32 = 10 ^ 31 * 10 := by rw [← Nat.pow_succ]
    omega
  have hVd : dl (U + 5 * 10 ^ k) ≤ 32 := dl_le_of (by decide) hV
  have h5d : dl (5 * 10 ^ k) ≤ 32 := Nat.le_trans (dl_mono (Nat.le_add_left _ _)) hVd
  have hRd : dl (roundU U S t) ≤ 63 := dl_le_of (by decide) (round_lt hU (by omega))
  have hsg : sgn N (U + 5 * 10 ^ k) = N := by
    have : U + 5 * 10 ^ k ≠ 0 := by have := Nat.pow_pos (n := k) (show 0 < 10 by decide); omega
    unfold sgn; rw [beq_eq_false_iff_ne.2 this]; cases N <;> rfl
  have ZE := Lib.hid (fun w => zeros_dds k w (by omega))
  have SU := Lib.hid (fun w => sum_any U (5 * 10 ^ k) w (by omega) (by omega))
  have MA0 := fun w => made_ds N (U + 5 * 10 ^ k) S w (by omega)
  rw [hsg] at MA0
  have MA := Lib.hid MA0
  have CU0 := fun w => rcut_any N (U + 5 * 10 ^ k) S t w (by omega) (by omega) (by omega)
  rw [hX] at CU0
  have CU := Lib.hid CU0
  have WH := Lib.hid (fun w => rwhole_any N (roundU U S t) t w (by omega) (by omega))
  have SC0 := fun w => rscaled_any t w
  rw [decide_eq_true (show 0 ≤ (t : Int) ∧ (t : Int) ≤ 31 by omega)] at SC0
  have SC := Lib.hid SC0
  clear MA0 CU0 SC0 hsg hVd hV hX h5d hRd
  generalize roundU U S t = X at *
  go_enter Try.func13, Try.ntmps13
  go_wp2_with (first
    | (go_at_call 41; refine (RY _).mono ?_; rintro e w1 ⟨rfl, hb⟩; have TK0 := (Blk.nil w).kept hb; clear hb; have X1 := (Blk.nil w1).lay rfl (rcells N U S) 50)
    | (go_at_call 42; refine (SC.out _).mono ?_; rintro e w2 ⟨rfl, rfl⟩))
  have TE : Blk w1 _ [rcells N U S] := X1.drew
  have TK := (TK0.more (.cells (rcells N U S) 50)).drew
  go_cut [] (fun W => Blk w1 W [rcells N (U + 5 * 10 ^ k) S] ∧ Blk w W [])
  case first =>
    refine wp_region_held_drew (S := fun W => ∃ V, Blk w1 W [rcells N V S]) (by kernel_rfl) ⟨_, TE⟩ (fun hHeld => ?_)
    refine wpAnyH_take (i := 0) (v := Value.pointer (some ⟨w1.heap.size, 0, none⟩)) rfl (by kernel_rfl) (by kernel_rfl) (by kernel_rfl) (fun _ _ _ h => h) (Or.inl ⟨by rfl, fun W T => ?_⟩) (by assumption) ?_
    · go_simp
    simp only [Act.put, List.setIfInBounds_toArray, List.set_cons_zero, List.set_cons_succ]
    refine wpAnyH_take (i := 1) (v := .bool N) rfl (by kernel_rfl) (by kernel_rfl) (by kernel_rfl) (fun _ _ _ h => h) (Or.inl ⟨by rfl, fun W T => ?_⟩) (by assumption) ?_
    · obtain ⟨V, T⟩ := T; have c0 : World.cell? _ ⟨w1.heap.size, 0, none⟩ = some (.bool N) := T.cell 0 rfl 0; have c2 : World.cell? _ ⟨w1.heap.size, 2, none⟩ = some (.int .i64 S) := T.cell 0 rfl 2; go_simp
    simp only [Act.put, List.setIfInBounds_toArray, List.set_cons_zero, List.set_cons_succ]
    refine wpAnyH_take (i := 2) (v := Value.pointer (some ⟨w1.heap.size, 1, none⟩)) rfl (by kernel_rfl) (by kernel_rfl) (by kernel_rfl) (fun _ _ _ h => h) (Or.inl ⟨by rfl, fun W T => ?_⟩) (by assumption) ?_
    · go_simp
    simp only [Act.put, List.setIfInBounds_toArray, List.set_cons_zero, List.set_cons_succ]
    refine wpAnyH_take (i := 4) (v := Value.pointer (some ⟨w1.heap.size, 2, none⟩)) rfl (by kernel_rfl) (by kernel_rfl) (by kernel_rfl) (fun _ _ _ h => h) (Or.inl ⟨by rfl, fun W T => ?_⟩) (by assumption) ?_
    · go_simp
    simp only [Act.put, List.setIfInBounds_toArray, List.set_cons_zero, List.set_cons_succ]
    refine wpAnyH_take (i := 5) (v := .int .i64 S) rfl (by kernel_rfl) (by kernel_rfl) (by kernel_rfl) (fun _ _ _ h => h) (Or.inl ⟨by rfl, fun W T => ?_⟩) (by assumption) ?_
    · obtain ⟨V, T⟩ := T; have c0 : World.cell? _ ⟨w1.heap.size, 0, none⟩ = some (.bool N) := T.cell 0 rfl 0; have c2 : World.cell? _ ⟨w1.heap.size, 2, none⟩ = some (.int .i64 S) := T.cell 0 rfl 2; go_simp
    simp only [Act.put, List.setIfInBounds_toArray, List.set_cons_zero, List.set_cons_succ]
    refine wpAnyH_take (i := 6) (v := .int .i64 t) rfl (by kernel_rfl) (by kernel_rfl) (by kernel_rfl) (fun _ _ _ h => h) (Or.inl ⟨by rfl, fun W T => ?_⟩) (by assumption) ?_
    · go_simp
    simp only [Act.put, List.setIfInBounds_toArray, List.set_cons_zero, List.set_cons_succ]
    refine wpAnyH_take (i := 7) (v := .int .i64 ((S : Int) - (t : Int))) rfl (by kernel_rfl) (by kernel_rfl) (by kernel_rfl) (fun _ _ _ h => h) (Or.inl ⟨by rfl, fun W T => ?_⟩) (by assumption) ?_
    · go_simp
    simp only [Act.put, List.setIfInBounds_toArray, List.set_cons_zero, List.set_cons_succ]
    refine wpAnyH_take (i := 8) (v := .int .i64 k) rfl (by kernel_rfl) (by kernel_rfl) (by kernel_rfl) (fun _ _ _ h => h) (Or.inl ⟨by rfl, fun W T => ?_⟩) (by assumption) ?_
    · go_simp
    simp only [Act.put, List.setIfInBounds_toArray, List.set_cons_zero, List.set_cons_succ]
    refine wpAnyH_take (i := 12) (v := Value.pointer (some ⟨w1.heap.size, 2, none⟩)) rfl (by kernel_rfl) (by kernel_rfl) (by kernel_rfl) (fun _ _ _ h => h) (Or.inl ⟨by rfl, fun W T => ?_⟩) (by assumption) ?_
    · go_simp
    simp only [Act.put, List.setIfInBounds_toArray, List.set_cons_zero, List.set_cons_succ]
    refine wpAnyH_take (i := 13) (v := .int .i64 S) rfl (by kernel_rfl) (by kernel_rfl) (by kernel_rfl) (fun _ _ _ h => h) (Or.inl ⟨by rfl, fun W T => ?_⟩) (by assumption) ?_
    · obtain ⟨V, T⟩ := T; have c0 : World.cell? _ ⟨w1.heap.size, 0, none⟩ = some (.bool N) := T.cell 0 rfl 0; have c2 : World.cell? _ ⟨w1.heap.size, 2, none⟩ = some (.int .i64 S) := T.cell 0 rfl 2; go_simp
    simp only [Act.put, List.setIfInBounds_toArray, List.set_cons_zero, List.set_cons_succ]
    refine wpAnyH_ready (rs := [3, 9]) (by kernel_rfl) (by simp) ?_
    refine AllReadyH.cons rfl (fun K hK => ?_) (AllReadyH.cons rfl (fun K hK => ?_) (AllReadyH.nil))
    · skip
      have c1 : World.cell? _ ⟨w1.heap.size, 1, none⟩ = some (.string ⟨(ds U).toArray⟩) := TE.cell 0 rfl 1
      go_simp
      refine hK.out _ _ ⟨_, TE⟩ (fun _ => ?_)
      clear hK K c1
      try simp only [Act.put, List.setIfInBounds_toArray, List.set_cons_zero, List.set_cons_succ]
      refine wpAnyH_ready (rs := [9]) (by kernel_rfl) (by simp) ?_
      refine AllReadyH.cons rfl (fun K hK => ?_) (AllReadyH.nil)
      go_simp
      go_at_call 49
      refine (ZE.out _).mono ?_
      rintro e wz ⟨rfl, rfl⟩
      go_wp2_with fail
      refine hK.out _ _ ⟨_, TE⟩ (fun _ => ?_)
      clear hK K
      try simp only [Act.put, List.setIfInBounds_toArray, List.set_cons_zero, List.set_cons_succ]
      refine wpAnyH_take (i := 10) (v := .string ⟨(ds (5 * 10 ^ k)).toArray⟩) rfl (by kernel_rfl) (by kernel_rfl) (by kernel_rfl) (fun _ _ _ h => h) (Or.inl ⟨by rfl, fun W T => ?_⟩) (by assumption) ?_
      · go_simp
      simp only [Act.put, List.setIfInBounds_toArray, List.set_cons_zero, List.set_cons_succ]
      refine wpAnyH_ready (rs := [11]) (by kernel_rfl) (by simp) ?_
      refine AllReadyH.cons rfl (fun K hK => ?_) (AllReadyH.nil)
      go_simp
      go_at_call 48
      refine (SU.out _).mono ?_
      rintro e w4 ⟨rfl, hb4⟩
      have TE := TE.kept hb4
      have TK := TK.kept hb4
      go_wp2_with fail
      refine hK.out _ _ ⟨_, TE⟩ (fun _ => ?_)
      clear hK K
      try simp only [Act.put, List.setIfInBounds_toArray, List.set_cons_zero, List.set_cons_succ]
      refine wpAnyH_ready (rs := [14]) (by kernel_rfl) (by simp) ?_
      refine AllReadyH.cons rfl (fun K hK => ?_) (AllReadyH.nil)
      go_simp
      go_at_call 47
      refine (MA.out _).mono ?_
      rintro e w5 ⟨rfl, hb5⟩
      have TE := TE.kept hb5
      have TK := TK.kept hb5
      go_wp2_with fail
      refine hK.out _ _ ⟨_, TE⟩ (fun _ => ?_)
      clear hK K
      try simp only [Act.put, List.setIfInBounds_toArray, List.set_cons_zero, List.set_cons_succ]
      have r5 : rowOf _ (w1.heap.size) = _ := TE.row 0 _ rfl
      have f5 : freeOf _ (w1.heap.size) = _ := TE.fr 0 rfl
      refine wpAnyH_ready (rs := [15]) (by kernel_rfl) (by simp) ?_
      refine AllReadyH.cons rfl (fun K hK => ?_) (AllReadyH.nil)
      have TP := TE.put 0 rfl 0 (rcells N (U + 5 * 10 ^ k) S)
      have TQ := TK.putOther (w1.heap.size + 0) 0 (rcells N (U + 5 * 10 ^ k) S) (by have := TK0.le; simp at this ⊢; omega)
      rw [splice_rr] at TP
      go_simp
      refine hK.out _ _ ⟨_, TP⟩ (fun _ => ?_)
      clear hK K
      refine wpAnyH_done (by kernel_rfl) ?_ _
      go_wp2_with fail
      go_meet
      exact ⟨TP, TQ⟩
    · skip
      go_simp
      go_at_call 49
      refine (ZE.out _).mono ?_
      rintro e wz ⟨rfl, rfl⟩
      go_wp2_with fail
      refine hK.out _ _ ⟨_, TE⟩ (fun _ => ?_)
      clear hK K
      try simp only [Act.put, List.setIfInBounds_toArray, List.set_cons_zero, List.set_cons_succ]
      refine wpAnyH_take (i := 10) (v := .string ⟨(ds (5 * 10 ^ k)).toArray⟩) rfl (by kernel_rfl) (by kernel_rfl) (by kernel_rfl) (fun _ _ _ h => h) (Or.inl ⟨by rfl, fun W T => ?_⟩) (by assumption) ?_
      · go_simp
      simp only [Act.put, List.setIfInBounds_toArray, List.set_cons_zero, List.set_cons_succ]
      refine wpAnyH_ready (rs := [3]) (by kernel_rfl) (by simp) ?_
      refine AllReadyH.cons rfl (fun K hK => ?_) (AllReadyH.nil)
      have c1 : World.cell? _ ⟨w1.heap.size, 1, none⟩ = some (.string ⟨(ds U).toArray⟩) := TE.cell 0 rfl 1
      go_simp
      refine hK.out _ _ ⟨_, TE⟩ (fun _ => ?_)
      clear hK K c1
      try simp only [Act.put, List.setIfInBounds_toArray, List.set_cons_zero, List.set_cons_succ]
      refine wpAnyH_ready (rs := [11]) (by kernel_rfl) (by simp) ?_
      refine AllReadyH.cons rfl (fun K hK => ?_) (AllReadyH.nil)
      go_simp
      go_at_call 48
      refine (SU.out _).mono ?_
      rintro e w4 ⟨rfl, hb4⟩
      have TE := TE.kept hb4
      have TK := TK.kept hb4
      go_wp2_with fail
      refine hK.out _ _ ⟨_, TE⟩ (fun _ => ?_)
      clear hK K
      try simp only [Act.put, List.setIfInBounds_toArray, List.set_cons_zero, List.set_cons_succ]
      refine wpAnyH_ready (rs := [14]) (by kernel_rfl) (by simp) ?_
      refine AllReadyH.cons rfl (fun K hK => ?_) (AllReadyH.nil)
      go_simp
      go_at_call 47
      refine (MA.out _).mono ?_
      rintro e w5 ⟨rfl, hb5⟩
      have TE := TE.kept hb5
      have TK := TK.kept hb5
      go_wp2_with fail
      refine hK.out _ _ ⟨_, TE⟩ (fun _ => ?_)
      clear hK K
      try simp only [Act.put, List.setIfInBounds_toArray, List.set_cons_zero, List.set_cons_succ]
      have r5 : rowOf _ (w1.heap.size) = _ := TE.row 0 _ rfl
      have f5 : freeOf _ (w1.heap.size) = _ := TE.fr 0 rfl
      refine wpAnyH_ready (rs := [15]) (by kernel_rfl) (by simp) ?_
      refine AllReadyH.cons rfl (fun K hK => ?_) (AllReadyH.nil)
      have TP := TE.put 0 rfl 0 (rcells N (U + 5 * 10 ^ k) S)
      have TQ := TK.putOther (w1.heap.size + 0) 0 (rcells N (U + 5 * 10 ^ k) S) (by have := TK0.le; simp at this ⊢; omega)
      rw [splice_rr] at TP
      go_simp
      refine hK.out _ _ ⟨_, TP⟩ (fun _ => ?_)
      clear hK K
      refine wpAnyH_done (by kernel_rfl) ?_ _
      go_wp2_with fail
      go_meet
      exact ⟨TP, TQ⟩
  case rest =>
    obtain ⟨TP, TQ⟩ := hcut
    have r5 : rowOf _ (w1.heap.size) = _ := TP.row 0 _ rfl
    go_wp2_with (first
      | (go_at_call 44; refine (CU.out _).mono ?_; rintro e w6 ⟨rfl, hb⟩; have K6 := TQ.kept hb; clear hb)
      | (go_at_call 43; refine (WH.out _).mono ?_; rintro e w7 ⟨rfl, hb⟩; have K7 := K6.kept hb; clear hb))
    go_ret2
    exact ⟨rfl, K7.below⟩
set_option maxRecDepth 100000 in
set_option maxHeartbeats 2000000 in
theorem rround_all (l : List UInt8) (t : Int) (w : World) (hl : l.length ≤ 500) :
    Calls Try.prog 13 #[.string ⟨l.toArray⟩, .int .i64 t] w fun e w' => e = .returned (.tuple #[.string ⟨(roundR l t).1.toArray⟩, .int .i64 (roundR l t).2]) ∧ Below w.heap.size w w' := by
  cases hp : parseB l with
  | false =>
    rw [roundR_no (Or.inl hp), hp]
    have RN := Lib.hid (fun w => read_n w hl hp)
    clear hl hp
    go_enter Try.func13, Try.ntmps13
    go_wp2_with (go_at_call 41; refine (RN.out _).mono ?_; rintro e w1 ⟨rfl, hb⟩; have K1 := (Blk.nil w).kept hb; clear hb)
    go_ret2
    exact ⟨rfl, (K1.more _).below⟩
  | true =>
    have RY0 := fun w => read_y w hl hp
    obtain ⟨g, _⟩ := parseB_good hp
    have SC := fun w => rscaled_any t w
    have s31 : sOf l ≤ 31 := g.s31
    have u31 : dl (uOf l) ≤ 31 := g.u31
    by_cases h : 0 ≤ t ∧ t ≤ 31
    · rw [decide_eq_true h] at SC
      have SC' := Lib.hid SC
      obtain ⟨n, rfl⟩ : ∃ n : Nat, t = n := ⟨t.toNat, by omega⟩
      have e : roundR l n = wholeR (negOf l) (roundU (uOf l) (sOf l) n) n := by
        unfold roundR; rw [if_pos hp, if_pos h, Int.toNat_natCast]
      rw [e]
      by_cases hlt : n < sOf l
      · exact rround_dn l _ _ _ n w RY0 u31 s31 hlt
      · have hr : roundU (uOf l) (sOf l) n = scU (uOf l) (sOf l) n := by unfold roundU; rw [if_neg (fun e => hlt e.1)]
        rw [hr]
        have hd := Good.sdl hp n (by omega)
        have t1 : ¬ (n : Int) < (sOf l : Int) := by omega
        have CU := Lib.hid (fun w => rcut_any (negOf l) (uOf l) (sOf l) n w (by omega) (by omega) (by omega))
        have WH := Lib.hid (fun w => rwhole_any (negOf l) (scU (uOf l) (sOf l) n) n w (by omega) (by omega))
        have RY := Lib.hid RY0
        clear SC RY0 hl hp e g h hd s31 u31 hr
        generalize scU (uOf l) (sOf l) n = X at *
        generalize negOf l = N at *
        generalize uOf l = U at *
        generalize sOf l = S at *
        go_enter Try.func13, Try.ntmps13
        go_wp2_with (first
          | (go_at_call 41; refine (RY.out _).mono ?_; rintro e w1 ⟨rfl, hb⟩; have K1 := (Blk.nil w).kept hb; clear hb)
          | (go_at_call 42; refine (SC'.out _).mono ?_; rintro e w2 ⟨rfl, rfl⟩)
          | (go_at_call 44; refine (CU.out _).mono ?_; rintro e w3 ⟨rfl, hb⟩; have K3 := (K1.more _).kept hb; clear hb)
          | (go_at_call 43; refine (WH.out _).mono ?_; rintro e w4 ⟨rfl, hb⟩; have K4 := K3.kept hb; clear hb))
        go_ret2
        exact ⟨rfl, K4.below⟩
    · rw [decide_eq_false h] at SC
      have SC' := Lib.hid SC
      have RY := Lib.hid RY0
      rw [roundR_no (Or.inr h), hp]
      clear SC hl hp g h RY0 s31 u31
      go_enter Try.func13, Try.ntmps13
      go_wp2_with (first
        | (go_at_call 41; refine (RY.out _).mono ?_; rintro e w1 ⟨rfl, hb⟩; have K1 := (Blk.nil w).kept hb; clear hb)
        | (go_at_call 42; refine (SC'.out _).mono ?_; rintro e w2 ⟨rfl, rfl⟩))
      go_ret2
      exact ⟨rfl, (K1.more _).below⟩
end Go.Proofs.Ytkcogoibaodbeaa
