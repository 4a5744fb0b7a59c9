/- FixedReads: the references' plain that takes a plus sign. FixedReads: the references' Read. FixedReads: Read of package fixed. FixedReads: its walk and what is plain about it, joined. -/
import Derived.Test.YtkcogoibaodbeaaGreatDoorRdC
import Derived.Deep.DeepCutAuto
import Derived.Test.YtkcogoibaodbeaaGreatDoorLong
import Derived.Test.YtkcogoibaodbeaaGreatDoorAwake
set_option linter.unusedVariables false
set_option linter.unusedSimpArgs false
namespace Go.Proofs.YtkcogoibaodbeaaGreatDoor
open Go.RowKit
attribute [local go_sem] ByteArray.mk_append_mk ByteArray.extract_mk
attribute [local irreducible] ds dd
set_option maxRecDepth 100000 in
set_option maxHeartbeats 4000000 in
theorem plainp_minus (r : List UInt8) (w : World) (hl : r.length ≤ 500)  :
    Calls Tryz.prog 33 #[.string ⟨(45 :: r).toArray⟩, .bool true] w fun e w' => e = .returned (.tuple (plainR true r)) ∧ Below w.heap.size w w' := by
  have T0 := (Blk.nil w).lay rfl rzero 48
  go_enter Tryz.func33, Tryz.ntmps33
  go_wp2
  go_loopw [7, 8, 9, 35] (fun s7 s8 s9 s35 W => ∃ (i b : Nat) (p : Bool) (f : Int), i ≤ r.length ∧ b ≤ i ∧ s7 = .int .i64 (b : Int) ∧ s8 = .bool p ∧ s9 = .int .i64 f ∧ s35 = .int .i64 (i : Int) ∧ scan (r.drop i) i p f b = scan r 0 false (-1) 0 ∧ Blk w W [rzero]) (fun _ _ _ s35 _ => r.length - (intOf s35).toNat)
  case atStart => exact ⟨0, 0, false, -1, by omega, by omega, rfl, rfl, rfl, rfl, rfl, T0⟩
  case round =>
    obtain ⟨i, b, p, f, hi, hbi, rfl, rfl, rfl, rfl, hs, T1⟩ := hrel
    have r0 : rowOf _ (w.heap.size) = _ := T1.row 0 _ rfl
    have f0 : freeOf _ (w.heap.size) = _ := T1.fr 0 rfl
    by_cases hlt : i < r.length
    · have ht : (i : Int) < (r.length : Int) := by omega
      rw [List.drop_eq_getElem_cons hlt, scan] at hs
      obtain ⟨c, hc⟩ : ∃ c, r[i] = c := ⟨_, rfl⟩
      rw [hc] at hs
      obtain ⟨C, hC⟩ : ∃ C : Nat, c.toNat = C := ⟨_, rfl⟩
      have hg : ((ByteArray.mk r.toArray)[i]'(by simpa [ByteArray.size] using hlt)).toNat = C := by
        rw [← hC, ← hc]; rfl
      have wi : IntKind.i64.wrap ((i : Int) + 1) = (i : Int) + 1 := IntWalk.i64_in _ (by omega)
      have wb : IntKind.i64.wrap ((b : Int) + 1) = (b : Int) + 1 := IntWalk.i64_in _ (by omega)
      have c46 : (c = 46) = (C = 46) := by rw [← UInt8.toNat_inj, hC]; rfl
      have cD : (isD c = true) = (48 ≤ C ∧ C ≤ 57) := by rw [← hC]; exact propext (isD_nat c)
      simp only [c46, cD] at hs
      clear c46 cD hC hc
      by_cases h1 : C = 46 ∧ p = false
      · obtain ⟨rfl, rfl⟩ := h1
        rw [if_pos ⟨rfl, rfl⟩] at hs
        go_wp2
        exact ⟨⟨i + 1, b, true, i, by omega, by omega, rfl, rfl, rfl, rfl, hs, T1⟩, by simp [intOf]; omega⟩
      · rw [if_neg h1] at hs
        by_cases h2 : 48 ≤ C ∧ C ≤ 57
        · rw [if_pos h2] at hs
          have q1 : ¬ ((C : Int) = 46) := by omega
          have q1' : ((C : Int) == 46) = false := by simpa using q1
          have q2 : (48 : Int) ≤ (C : Int) := by omega
          have q3 : (C : Int) ≤ 57 := by omega
          cases p with
          | false =>
            go_wp2
            exact ⟨⟨i + 1, b, false, f, by omega, by omega, rfl, rfl, rfl, rfl, hs, T1⟩, by simp [intOf]; omega⟩
          | true =>
            go_wp2
            exact ⟨⟨i + 1, b + 1, true, f, by omega, by omega, rfl, rfl, rfl, rfl, hs, T1⟩, by simp [intOf]; omega⟩
        · rw [if_neg h2] at hs
          have PN := plainR_no (neg := true) hs.symm
          clear hs
          have hp : p = true ∨ (p = false ∧ ((C : Int) == 46) = false) := by
            cases p
            · refine Or.inr ⟨rfl, ?_⟩
              have : ¬ C = 46 := fun e => h1 ⟨e, rfl⟩
              simpa using (show ¬ (C : Int) = 46 by omega)
            · exact Or.inl rfl
          have h3 : (¬ (48 : Int) ≤ (C : Int)) ∨ ((48 : Int) ≤ (C : Int) ∧ ¬ (C : Int) ≤ 57) := by omega
          clear h1 h2
          rcases hp with rfl | ⟨rfl, hp⟩
          all_goals rcases h3 with h3 | ⟨h3, h4⟩
          all_goals
            go_wp2
            all_goals exact ret_row_tmp (b := w.heap.size) (C := rzero) (v := .bool false) rfl rtRef rfl rfl (by go_simp; rfl) rfl ⟨by first | rfl | rw [PN], T1.below.putRow (by omega) _ _⟩
    · have hin : i = r.length := by omega
      subst hin
      rw [List.drop_length, scan] at hs
      obtain ⟨hd, hp, hb, hf0⟩ := scan_yes hs.symm
      clear hs
      have ML := Lib.hid (fun w => made_list true (allOf r) b w hd (by have := all_length r; omega))
      have hal := all_length r
      cases hE : (allOf r).isEmpty with
      | true =>
        have PN := plainR_nil (neg := true) (List.isEmpty_iff.1 hE)
        cases p with
        | false =>
          have hJ := cut_nopoint r hp.symm
          change allOf r = r at hJ
          rw [hJ] at hE
          clear hd ML hJ hp hb hf0
          go_wp2
          exact ret_row_tmp (b := w.heap.size) (C := rzero) (v := .bool false) rfl rtRef rfl rfl (by go_simp; rfl) rfl ⟨by first | rfl | rw [PN], T1.below.putRow (by omega) _ _⟩
        | true =>
          obtain ⟨hJ, hJ2⟩ := cut_join r hp.symm
          change _ = allOf r at hJ
          have hf := hf0 rfl
          clear hf0
          obtain ⟨k, hk⟩ : ∃ k, (cutDot r).1.length = k := ⟨_, rfl⟩
          rw [hk] at hJ hJ2 hf
          subst hf
          have wk : IntKind.i64.wrap ((k : Int) + 1) = (k : Int) + 1 := IntWalk.i64_in _ (by omega)
          have k1 : (k : Int) ≤ (r.length : Int) := by omega
          have k2 : (k : Int) + 1 ≤ (r.length : Int) := by omega
          have k3 : k ≤ r.length := by omega
          have k4 : k + 1 ≤ r.length := by omega
          have k5 : min k r.length + (r.length - (k + 1)) ≤ 9223372036854775807 := by omega
          have k6 : List.take (r.length - (k + 1)) (List.drop (k + 1) r) = List.drop (k + 1) r := List.take_of_length_le (by simp)
          have k7 : k + (r.length - (k + 1)) ≤ 9223372036854775807 := by omega
          clear hd ML hp hb hk
          go_wp2
          go_region
          go_wp2
          exact ret_row_tmp (b := w.heap.size) (C := rzero) (v := .bool false) rfl rtRef rfl rfl (by go_simp; rfl) rfl ⟨by first | rfl | rw [PN], T1.drew.below.putRow (by omega) _ _⟩
      | false =>
        have hne : allOf r ≠ [] := fun e => by rw [e] at hE; cases hE
        have PY : plainR true r = #[.agg (rcells (sgn true (valD (allOf r))) (valD (allOf r)) b), .bool true] := by
          unfold plainR
          rw [if_pos ⟨hd, hne⟩, ← hb]
        cases p with
        | false =>
          have hJ := cut_nopoint r hp.symm
          change allOf r = r at hJ
          rw [hJ] at hE ML PY
          clear hd hJ hp hb hf0
          go_wp2_with (go_at_call 42; refine (ML.out _).mono ?_; rintro e w2 ⟨rfl, hb2⟩; have T2 := T1.kept hb2; have r2 : rowOf _ (w.heap.size) = _ := T2.row 0 _ rfl; have f2 : freeOf _ (w.heap.size) = _ := T2.fr 0 rfl)
          exact ret_row_tmp (b := w.heap.size) (C := rcells (sgn true (valD r)) (valD r) b) (v := .bool true) rfl rtRef rfl rfl (by go_simp) rfl ⟨by first | rfl | rw [PY], T2.below.putRow (by omega) _ _⟩
        | true =>
          obtain ⟨hJ, hJ2⟩ := cut_join r hp.symm
          change _ = allOf r at hJ
          have hf := hf0 rfl
          clear hf0
          obtain ⟨k, hk⟩ : ∃ k, (cutDot r).1.length = k := ⟨_, rfl⟩
          rw [hk] at hJ hJ2 hf
          subst hf
          have wk : IntKind.i64.wrap ((k : Int) + 1) = (k : Int) + 1 := IntWalk.i64_in _ (by omega)
          have k1 : (k : Int) ≤ (r.length : Int) := by omega
          have k2 : (k : Int) + 1 ≤ (r.length : Int) := by omega
          have k3 : k ≤ r.length := by omega
          have k4 : k + 1 ≤ r.length := by omega
          have k5 : min k r.length + (r.length - (k + 1)) ≤ 9223372036854775807 := by omega
          have k6 : List.take (r.length - (k + 1)) (List.drop (k + 1) r) = List.drop (k + 1) r := List.take_of_length_le (by simp)
          have k7 : k + (r.length - (k + 1)) ≤ 9223372036854775807 := by omega
          clear hd hp hb hk
          go_wp2
          go_region
          go_wp2_with (go_at_call 42; refine (ML.out _).mono ?_; rintro e w2 ⟨rfl, hb2⟩; have T2 := T1.drew.kept hb2; have r2 : rowOf _ (w.heap.size) = _ := T2.row 0 _ rfl; have f2 : freeOf _ (w.heap.size) = _ := T2.fr 0 rfl)
          exact ret_row_tmp (b := w.heap.size) (C := rcells (sgn true (valD (allOf r))) (valD (allOf r)) b) (v := .bool true) rfl rtRef rfl rfl (by go_simp) rfl ⟨by first | rfl | rw [PY], T2.below.putRow (by omega) _ _⟩
set_option maxRecDepth 100000 in
set_option maxHeartbeats 4000000 in
theorem plainp_plus (r : List UInt8) (w : World) (hl : r.length ≤ 500)  :
    Calls Tryz.prog 33 #[.string ⟨(43 :: r).toArray⟩, .bool true] w fun e w' => e = .returned (.tuple (plainR false r)) ∧ Below w.heap.size w w' := by
  have hsz : 0 < (ByteArray.mk (43 :: r).toArray).size := by simp [ByteArray.size]
  have g0 : ((((ByteArray.mk (43 :: r).toArray)[0]'hsz).toNat : Int) == 45) = false := rfl
  have g1 : ((((ByteArray.mk (43 :: r).toArray)[0]'hsz).toNat : Int) == 43) = true := rfl
  have T0 := (Blk.nil w).lay rfl rzero 48
  go_enter Tryz.func33, Tryz.ntmps33
  go_wp2
  go_loopw [7, 8, 9, 35] (fun s7 s8 s9 s35 W => ∃ (i b : Nat) (p : Bool) (f : Int), i ≤ r.length ∧ b ≤ i ∧ s7 = .int .i64 (b : Int) ∧ s8 = .bool p ∧ s9 = .int .i64 f ∧ s35 = .int .i64 (i : Int) ∧ scan (r.drop i) i p f b = scan r 0 false (-1) 0 ∧ Blk w W [rzero]) (fun _ _ _ s35 _ => r.length - (intOf s35).toNat)
  case atStart => exact ⟨0, 0, false, -1, by omega, by omega, rfl, rfl, rfl, rfl, rfl, T0⟩
  case round =>
    obtain ⟨i, b, p, f, hi, hbi, rfl, rfl, rfl, rfl, hs, T1⟩ := hrel
    have r0 : rowOf _ (w.heap.size) = _ := T1.row 0 _ rfl
    have f0 : freeOf _ (w.heap.size) = _ := T1.fr 0 rfl
    by_cases hlt : i < r.length
    · have ht : (i : Int) < (r.length : Int) := by omega
      rw [List.drop_eq_getElem_cons hlt, scan] at hs
      obtain ⟨c, hc⟩ : ∃ c, r[i] = c := ⟨_, rfl⟩
      rw [hc] at hs
      obtain ⟨C, hC⟩ : ∃ C : Nat, c.toNat = C := ⟨_, rfl⟩
      have hg : ((ByteArray.mk r.toArray)[i]'(by simpa [ByteArray.size] using hlt)).toNat = C := by
        rw [← hC, ← hc]; rfl
      have wi : IntKind.i64.wrap ((i : Int) + 1) = (i : Int) + 1 := IntWalk.i64_in _ (by omega)
      have wb : IntKind.i64.wrap ((b : Int) + 1) = (b : Int) + 1 := IntWalk.i64_in _ (by omega)
      have c46 : (c = 46) = (C = 46) := by rw [← UInt8.toNat_inj, hC]; rfl
      have cD : (isD c = true) = (48 ≤ C ∧ C ≤ 57) := by rw [← hC]; exact propext (isD_nat c)
      simp only [c46, cD] at hs
      clear c46 cD hC hc
      by_cases h1 : C = 46 ∧ p = false
      · obtain ⟨rfl, rfl⟩ := h1
        rw [if_pos ⟨rfl, rfl⟩] at hs
        go_wp2
        exact ⟨⟨i + 1, b, true, i, by omega, by omega, rfl, rfl, rfl, rfl, hs, T1⟩, by simp [intOf]; omega⟩
      · rw [if_neg h1] at hs
        by_cases h2 : 48 ≤ C ∧ C ≤ 57
        · rw [if_pos h2] at hs
          have q1 : ¬ ((C : Int) = 46) := by omega
          have q1' : ((C : Int) == 46) = false := by simpa using q1
          have q2 : (48 : Int) ≤ (C : Int) := by omega
          have q3 : (C : Int) ≤ 57 := by omega
          cases p with
          | false =>
            go_wp2
            exact ⟨⟨i + 1, b, false, f, by omega, by omega, rfl, rfl, rfl, rfl, hs, T1⟩, by simp [intOf]; omega⟩
          | true =>
            go_wp2
            exact ⟨⟨i + 1, b + 1, true, f, by omega, by omega, rfl, rfl, rfl, rfl, hs, T1⟩, by simp [intOf]; omega⟩
        · rw [if_neg h2] at hs
          have PN := plainR_no (neg := false) hs.symm
          clear hs
          have hp : p = true ∨ (p = false ∧ ((C : Int) == 46) = false) := by
            cases p
            · refine Or.inr ⟨rfl, ?_⟩
              have : ¬ C = 46 := fun e => h1 ⟨e, rfl⟩
              simpa using (show ¬ (C : Int) = 46 by omega)
            · exact Or.inl rfl
          have h3 : (¬ (48 : Int) ≤ (C : Int)) ∨ ((48 : Int) ≤ (C : Int) ∧ ¬ (C : Int) ≤ 57) := by omega
          clear h1 h2
          rcases hp with rfl | ⟨rfl, hp⟩
          all_goals rcases h3 with h3 | ⟨h3, h4⟩
          all_goals
            go_wp2
            all_goals exact ret_row_tmp (b := w.heap.size) (C := rzero) (v := .bool false) rfl rtRef rfl rfl (by go_simp; rfl) rfl ⟨by first | rfl | rw [PN], T1.below.putRow (by omega) _ _⟩
    · have hin : i = r.length := by omega
      subst hin
      rw [List.drop_length, scan] at hs
      obtain ⟨hd, hp, hb, hf0⟩ := scan_yes hs.symm
      clear hs
      have ML := Lib.hid (fun w => made_list false (allOf r) b w hd (by have := all_length r; omega))
      have hal := all_length r
      cases hE : (allOf r).isEmpty with
      | true =>
        have PN := plainR_nil (neg := false) (List.isEmpty_iff.1 hE)
        cases p with
        | false =>
          have hJ := cut_nopoint r hp.symm
          change allOf r = r at hJ
          rw [hJ] at hE
          clear hd ML hJ hp hb hf0
          go_wp2
          exact ret_row_tmp (b := w.heap.size) (C := rzero) (v := .bool false) rfl rtRef rfl rfl (by go_simp; rfl) rfl ⟨by first | rfl | rw [PN], T1.below.putRow (by omega) _ _⟩
        | true =>
          obtain ⟨hJ, hJ2⟩ := cut_join r hp.symm
          change _ = allOf r at hJ
          have hf := hf0 rfl
          clear hf0
          obtain ⟨k, hk⟩ : ∃ k, (cutDot r).1.length = k := ⟨_, rfl⟩
          rw [hk] at hJ hJ2 hf
          subst hf
          have wk : IntKind.i64.wrap ((k : Int) + 1) = (k : Int) + 1 := IntWalk.i64_in _ (by omega)
          have k1 : (k : Int) ≤ (r.length : Int) := by omega
          have k2 : (k : Int) + 1 ≤ (r.length : Int) := by omega
          have k3 : k ≤ r.length := by omega
          have k4 : k + 1 ≤ r.length := by omega
          have k5 : min k r.length + (r.length - (k + 1)) ≤ 9223372036854775807 := by omega
          have k6 : List.take (r.length - (k + 1)) (List.drop (k + 1) r) = List.drop (k + 1) r := List.take_of_length_le (by simp)
          have k7 : k + (r.length - (k + 1)) ≤ 9223372036854775807 := by omega
          clear hd ML hp hb hk
          go_wp2
          go_region
          go_wp2
          exact ret_row_tmp (b := w.heap.size) (C := rzero) (v := .bool false) rfl rtRef rfl rfl (by go_simp; rfl) rfl ⟨by first | rfl | rw [PN], T1.drew.below.putRow (by omega) _ _⟩
      | false =>
        have hne : allOf r ≠ [] := fun e => by rw [e] at hE; cases hE
        have PY : plainR false r = #[.agg (rcells (sgn false (valD (allOf r))) (valD (allOf r)) b), .bool true] := by
          unfold plainR
          rw [if_pos ⟨hd, hne⟩, ← hb]
        cases p with
        | false =>
          have hJ := cut_nopoint r hp.symm
          change allOf r = r at hJ
          rw [hJ] at hE ML PY
          clear hd hJ hp hb hf0
          go_wp2_with (go_at_call 42; refine (ML.out _).mono ?_; rintro e w2 ⟨rfl, hb2⟩; have T2 := T1.kept hb2; have r2 : rowOf _ (w.heap.size) = _ := T2.row 0 _ rfl; have f2 : freeOf _ (w.heap.size) = _ := T2.fr 0 rfl)
          exact ret_row_tmp (b := w.heap.size) (C := rcells (sgn false (valD r)) (valD r) b) (v := .bool true) rfl rtRef rfl rfl (by go_simp) rfl ⟨by first | rfl | rw [PY], T2.below.putRow (by omega) _ _⟩
        | true =>
          obtain ⟨hJ, hJ2⟩ := cut_join r hp.symm
          change _ = allOf r at hJ
          have hf := hf0 rfl
          clear hf0
          obtain ⟨k, hk⟩ : ∃ k, (cutDot r).1.length = k := ⟨_, rfl⟩
          rw [hk] at hJ hJ2 hf
          subst hf
          have wk : IntKind.i64.wrap ((k : Int) + 1) = (k : Int) + 1 := IntWalk.i64_in _ (by omega)
          have k1 : (k : Int) ≤ (r.length : Int) := by omega
          have k2 : (k : Int) + 1 ≤ (r.length : Int) := by omega
          have k3 : k ≤ r.length := by omega
          have k4 : k + 1 ≤ r.length := by omega
          have k5 : min k r.length + (r.length - (k + 1)) ≤ 9223372036854775807 := by omega
          have k6 : List.take (r.length - (k + 1)) (List.drop (k + 1) r) = List.drop (k + 1) r := List.take_of_length_le (by simp)
          have k7 : k + (r.length - (k + 1)) ≤ 9223372036854775807 := by omega
          clear hd hp hb hk
          go_wp2
          go_region
          go_wp2_with (go_at_call 42; refine (ML.out _).mono ?_; rintro e w2 ⟨rfl, hb2⟩; have T2 := T1.drew.kept hb2; have r2 : rowOf _ (w.heap.size) = _ := T2.row 0 _ rfl; have f2 : freeOf _ (w.heap.size) = _ := T2.fr 0 rfl)
          exact ret_row_tmp (b := w.heap.size) (C := rcells (sgn false (valD (allOf r))) (valD (allOf r)) b) (v := .bool true) rfl rtRef rfl rfl (by go_simp) rfl ⟨by first | rfl | rw [PY], T2.below.putRow (by omega) _ _⟩
set_option maxRecDepth 100000 in
set_option maxHeartbeats 4000000 in
theorem plainp_empty (w : World) :
    Calls Tryz.prog 33 #[.string ⟨([] : List UInt8).toArray⟩, .bool true] w fun e w' => e = .returned (.tuple (plainR false [])) ∧ Below w.heap.size w w' := by
  have PN : plainR false [] = #[.agg rzero, .bool false] := plainR_nil rfl
  rw [PN]
  have T0 := (Blk.nil w).lay rfl rzero 48
  go_enter Tryz.func33, Tryz.ntmps33
  go_wp2
  go_loopw [7, 8, 9, 35] (fun s7 s8 s9 s35 W => s7 = .int .i64 0 ∧ s8 = .bool false ∧ s9 = .int .i64 (-1) ∧ s35 = .int .i64 0 ∧ Blk w W [rzero]) (fun _ _ _ _ _ => 0)
  case atStart => exact ⟨rfl, rfl, rfl, rfl, T0⟩
  case round =>
    obtain ⟨rfl, rfl, rfl, rfl, T1⟩ := hrel
    have r0 : rowOf _ (w.heap.size) = _ := T1.row 0 _ rfl
    have f0 : freeOf _ (w.heap.size) = _ := T1.fr 0 rfl
    go_wp2
    exact ret_row_tmp (b := w.heap.size) (C := rzero) (v := .bool false) rfl rtRef rfl rfl (by go_simp; rfl) rfl ⟨rfl, T1.below.putRow (by omega) _ _⟩
set_option maxRecDepth 100000 in
set_option maxHeartbeats 4000000 in
theorem plainp_other (r : List UInt8) (w : World) (hl : r.length ≤ 500) (h0 : 0 < r.length) (hne45 : r[0] ≠ 45) (hne43 : r[0] ≠ 43) :
    Calls Tryz.prog 33 #[.string ⟨(r).toArray⟩, .bool true] w fun e w' => e = .returned (.tuple (plainR false r)) ∧ Below w.heap.size w w' := by
  have h0' : (0 : Int) < (r.length : Int) := by omega
  have hsz : 0 < (ByteArray.mk r.toArray).size := by simpa [ByteArray.size] using h0
  have g45 : ((((ByteArray.mk r.toArray)[0]'hsz).toNat : Int) == 45) = false := by
    have e : (ByteArray.mk r.toArray)[0]'hsz = r[0] := rfl
    rw [e, beq_eq_false_iff_ne]
    intro h
    refine hne45 ?_
    rw [← UInt8.toNat_inj]
    have : (45 : UInt8).toNat = 45 := rfl
    omega
  have g43 : ((((ByteArray.mk r.toArray)[0]'hsz).toNat : Int) == 43) = false := by
    have e : (ByteArray.mk r.toArray)[0]'hsz = r[0] := rfl
    rw [e, beq_eq_false_iff_ne]
    intro h
    refine hne43 ?_
    rw [← UInt8.toNat_inj]
    have : (43 : UInt8).toNat = 43 := rfl
    omega
  clear hne45 hne43
  have T0 := (Blk.nil w).lay rfl rzero 48
  go_enter Tryz.func33, Tryz.ntmps33
  go_wp2
  go_loopw [7, 8, 9, 35] (fun s7 s8 s9 s35 W => ∃ (i b : Nat) (p : Bool) (f : Int), i ≤ r.length ∧ b ≤ i ∧ s7 = .int .i64 (b : Int) ∧ s8 = .bool p ∧ s9 = .int .i64 f ∧ s35 = .int .i64 (i : Int) ∧ scan (r.drop i) i p f b = scan r 0 false (-1) 0 ∧ Blk w W [rzero]) (fun _ _ _ s35 _ => r.length - (intOf s35).toNat)
  case atStart => exact ⟨0, 0, false, -1, by omega, by omega, rfl, rfl, rfl, rfl, rfl, T0⟩
  case round =>
    obtain ⟨i, b, p, f, hi, hbi, rfl, rfl, rfl, rfl, hs, T1⟩ := hrel
    have r0 : rowOf _ (w.heap.size) = _ := T1.row 0 _ rfl
    have f0 : freeOf _ (w.heap.size) = _ := T1.fr 0 rfl
    by_cases hlt : i < r.length
    · have ht : (i : Int) < (r.length : Int) := by omega
      rw [List.drop_eq_getElem_cons hlt, scan] at hs
      obtain ⟨c, hc⟩ : ∃ c, r[i] = c := ⟨_, rfl⟩
      rw [hc] at hs
      obtain ⟨C, hC⟩ : ∃ C : Nat, c.toNat = C := ⟨_, rfl⟩
      have hg : ((ByteArray.mk r.toArray)[i]'(by simpa [ByteArray.size] using hlt)).toNat = C := by
        rw [← hC, ← hc]; rfl
      have wi : IntKind.i64.wrap ((i : Int) + 1) = (i : Int) + 1 := IntWalk.i64_in _ (by omega)
      have wb : IntKind.i64.wrap ((b : Int) + 1) = (b : Int) + 1 := IntWalk.i64_in _ (by omega)
      have c46 : (c = 46) = (C = 46) := by rw [← UInt8.toNat_inj, hC]; rfl
      have cD : (isD c = true) = (48 ≤ C ∧ C ≤ 57) := by rw [← hC]; exact propext (isD_nat c)
      simp only [c46, cD] at hs
      clear c46 cD hC hc
      by_cases h1 : C = 46 ∧ p = false
      · obtain ⟨rfl, rfl⟩ := h1
        rw [if_pos ⟨rfl, rfl⟩] at hs
        go_wp2
        exact ⟨⟨i + 1, b, true, i, by omega, by omega, rfl, rfl, rfl, rfl, hs, T1⟩, by simp [intOf]; omega⟩
      · rw [if_neg h1] at hs
        by_cases h2 : 48 ≤ C ∧ C ≤ 57
        · rw [if_pos h2] at hs
          have q1 : ¬ ((C : Int) = 46) := by omega
          have q1' : ((C : Int) == 46) = false := by simpa using q1
          have q2 : (48 : Int) ≤ (C : Int) := by omega
          have q3 : (C : Int) ≤ 57 := by omega
          cases p with
          | false =>
            go_wp2
            exact ⟨⟨i + 1, b, false, f, by omega, by omega, rfl, rfl, rfl, rfl, hs, T1⟩, by simp [intOf]; omega⟩
          | true =>
            go_wp2
            exact ⟨⟨i + 1, b + 1, true, f, by omega, by omega, rfl, rfl, rfl, rfl, hs, T1⟩, by simp [intOf]; omega⟩
        · rw [if_neg h2] at hs
          have PN := plainR_no (neg := false) hs.symm
          clear hs
          have hp : p = true ∨ (p = false ∧ ((C : Int) == 46) = false) := by
            cases p
            · refine Or.inr ⟨rfl, ?_⟩
              have : ¬ C = 46 := fun e => h1 ⟨e, rfl⟩
              simpa using (show ¬ (C : Int) = 46 by omega)
            · exact Or.inl rfl
          have h3 : (¬ (48 : Int) ≤ (C : Int)) ∨ ((48 : Int) ≤ (C : Int) ∧ ¬ (C : Int) ≤ 57) := by omega
          clear h1 h2
          rcases hp with rfl | ⟨rfl, hp⟩
          all_goals rcases h3 with h3 | ⟨h3, h4⟩
          all_goals
            go_wp2
            all_goals exact ret_row_tmp (b := w.heap.size) (C := rzero) (v := .bool false) rfl rtRef rfl rfl (by go_simp; rfl) rfl ⟨by first | rfl | rw [PN], T1.below.putRow (by omega) _ _⟩
    · have hin : i = r.length := by omega
      subst hin
      rw [List.drop_length, scan] at hs
      obtain ⟨hd, hp, hb, hf0⟩ := scan_yes hs.symm
      clear hs
      have ML := Lib.hid (fun w => made_list false (allOf r) b w hd (by have := all_length r; omega))
      have hal := all_length r
      cases hE : (allOf r).isEmpty with
      | true =>
        have PN := plainR_nil (neg := false) (List.isEmpty_iff.1 hE)
        cases p with
        | false =>
          have hJ := cut_nopoint r hp.symm
          change allOf r = r at hJ
          rw [hJ] at hE
          clear hd ML hJ hp hb hf0
          go_wp2
          exact ret_row_tmp (b := w.heap.size) (C := rzero) (v := .bool false) rfl rtRef rfl rfl (by go_simp; rfl) rfl ⟨by first | rfl | rw [PN], T1.below.putRow (by omega) _ _⟩
        | true =>
          obtain ⟨hJ, hJ2⟩ := cut_join r hp.symm
          change _ = allOf r at hJ
          have hf := hf0 rfl
          clear hf0
          obtain ⟨k, hk⟩ : ∃ k, (cutDot r).1.length = k := ⟨_, rfl⟩
          rw [hk] at hJ hJ2 hf
          subst hf
          have wk : IntKind.i64.wrap ((k : Int) + 1) = (k : Int) + 1 := IntWalk.i64_in _ (by omega)
          have k1 : (k : Int) ≤ (r.length : Int) := by omega
          have k2 : (k : Int) + 1 ≤ (r.length : Int) := by omega
          have k3 : k ≤ r.length := by omega
          have k4 : k + 1 ≤ r.length := by omega
          have k5 : min k r.length + (r.length - (k + 1)) ≤ 9223372036854775807 := by omega
          have k6 : List.take (r.length - (k + 1)) (List.drop (k + 1) r) = List.drop (k + 1) r := List.take_of_length_le (by simp)
          have k7 : k + (r.length - (k + 1)) ≤ 9223372036854775807 := by omega
          clear hd ML hp hb hk
          go_wp2
          go_region
          go_wp2
          exact ret_row_tmp (b := w.heap.size) (C := rzero) (v := .bool false) rfl rtRef rfl rfl (by go_simp; rfl) rfl ⟨by first | rfl | rw [PN], T1.drew.below.putRow (by omega) _ _⟩
      | false =>
        have hne : allOf r ≠ [] := fun e => by rw [e] at hE; cases hE
        have PY : plainR false r = #[.agg (rcells (sgn false (valD (allOf r))) (valD (allOf r)) b), .bool true] := by
          unfold plainR
          rw [if_pos ⟨hd, hne⟩, ← hb]
        cases p with
        | false =>
          have hJ := cut_nopoint r hp.symm
          change allOf r = r at hJ
          rw [hJ] at hE ML PY
          clear hd hJ hp hb hf0
          go_wp2_with (go_at_call 42; refine (ML.out _).mono ?_; rintro e w2 ⟨rfl, hb2⟩; have T2 := T1.kept hb2; have r2 : rowOf _ (w.heap.size) = _ := T2.row 0 _ rfl; have f2 : freeOf _ (w.heap.size) = _ := T2.fr 0 rfl)
          exact ret_row_tmp (b := w.heap.size) (C := rcells (sgn false (valD r)) (valD r) b) (v := .bool true) rfl rtRef rfl rfl (by go_simp) rfl ⟨by first | rfl | rw [PY], T2.below.putRow (by omega) _ _⟩
        | true =>
          obtain ⟨hJ, hJ2⟩ := cut_join r hp.symm
          change _ = allOf r at hJ
          have hf := hf0 rfl
          clear hf0
          obtain ⟨k, hk⟩ : ∃ k, (cutDot r).1.length = k := ⟨_, rfl⟩
          rw [hk] at hJ hJ2 hf
          subst hf
          have wk : IntKind.i64.wrap ((k : Int) + 1) = (k : Int) + 1 := IntWalk.i64_in _ (by omega)
          have k1 : (k : Int) ≤ (r.length : Int) := by omega
          have k2 : (k : Int) + 1 ≤ (r.length : Int) := by omega
          have k3 : k ≤ r.length := by omega
          have k4 : k + 1 ≤ r.length := by omega
          have k5 : min k r.length + (r.length - (k + 1)) ≤ 9223372036854775807 := by omega
          have k6 : List.take (r.length - (k + 1)) (List.drop (k + 1) r) = List.drop (k + 1) r := List.take_of_length_le (by simp)
          have k7 : k + (r.length - (k + 1)) ≤ 9223372036854775807 := by omega
          clear hd hp hb hk
          go_wp2
          go_region
          go_wp2_with (go_at_call 42; refine (ML.out _).mono ?_; rintro e w2 ⟨rfl, hb2⟩; have T2 := T1.drew.kept hb2; have r2 : rowOf _ (w.heap.size) = _ := T2.row 0 _ rfl; have f2 : freeOf _ (w.heap.size) = _ := T2.fr 0 rfl)
          exact ret_row_tmp (b := w.heap.size) (C := rcells (sgn false (valD (allOf r))) (valD (allOf r)) b) (v := .bool true) rfl rtRef rfl rfl (by go_simp) rfl ⟨by first | rfl | rw [PY], T2.below.putRow (by omega) _ _⟩
/-- The sign left out, and whether it is a minus. -/
def restS (l : List UInt8) : List UInt8 := match l with
  | [] => []
  | c :: q => if c = 45 ∨ c = 43 then q else c :: q
def minusS (l : List UInt8) : Bool := match l with
  | [] => false
  | c :: _ => decide (c = 45)
theorem plainp_any (l : List UInt8) (w : World) (hl : l.length ≤ 500) :
    Calls Tryz.prog 33 #[.string ⟨l.toArray⟩, .bool true] w fun e w' => e = .returned (.tuple (plainR (minusS l) (restS l))) ∧ Below w.heap.size w w' := by
  cases l with
  | nil => exact plainp_empty w
  | cons c q =>
    unfold restS minusS
    by_cases h : c = 45
    · subst h
      exact plainp_minus q w (by simp at hl; omega)
    · by_cases h3 : c = 43
      · subst h3
        exact plainp_plus q w (by simp at hl; omega)
      · simp only [h, h3, or_self, if_false, decide_false]
        exact plainp_other (c :: q) w hl (by simp) h h3
end Go.Proofs.YtkcogoibaodbeaaGreatDoor
namespace Go.Proofs.YtkcogoibaodbeaaGreatDoor
open Go.RowKit
attribute [local go_sem] ByteArray.mk_append_mk ByteArray.extract_mk
/-- A d or D at the end left out. -/
def dropD (l : List UInt8) : List UInt8 := if l.getLast? = some 100 ∨ l.getLast? = some 68 then l.take (l.length - 1) else l
/-- What is read of a sign and what stands behind it. -/
def bodyR (n : Bool) (r : List UInt8) : List UInt8 × Int :=
  if (allOf r).all isD = true ∧ allOf r ≠ [] then
    if (cutDot r).2.1.length ≤ 31 ∧ dl (valD (allOf r)) ≤ 31 then (txt n (valD (allOf r)) (cutDot r).2.1.length, 0) else ([], 4)
  else ([], 2)
def freadR (l : List UInt8) : List UInt8 × Int := bodyR (minusS (dropD l)) (restS (dropD l))
theorem dropD_length (l : List UInt8) : (dropD l).length ≤ l.length := by
  unfold dropD
  split
  · rw [List.length_take]; omega
  · exact Nat.le_refl _
theorem restS_length (l : List UInt8) : (restS l).length ≤ l.length := by
  cases l with
  | nil => exact Nat.le_refl _
  | cons c q =>
    have e : restS (c :: q) = if c = 45 ∨ c = 43 then q else c :: q := rfl
    rw [e]
    by_cases h : c = 45 ∨ c = 43
    · rw [if_pos h, List.length_cons]; omega
    · rw [if_neg h]; exact Nat.le_refl _
/-- The forms of a text with regard to its last byte. -/
theorem dropD_forms (l : List UInt8) : (l = [] ∧ dropD l = []) ∨ ∃ (k C : Nat) (hk : l.length = k + 1) (hz : k < (ByteArray.mk l.toArray).size), ((ByteArray.mk l.toArray)[k]'hz).toNat = C ∧
    ((C = 100 ∧ dropD l = l.take k) ∨ (C = 68 ∧ dropD l = l.take k) ∨ (C ≠ 100 ∧ C ≠ 68 ∧ dropD l = l)) := by
  cases hl : l with
  | nil => exact Or.inl ⟨rfl, rfl⟩
  | cons c q =>
    rw [← hl]
    have hk : l.length = q.length + 1 := by rw [hl]; rfl
    have hz : q.length < (ByteArray.mk l.toArray).size := by simp [ByteArray.size]; omega
    have hq : q.length < l.length := by omega
    refine Or.inr ⟨q.length, _, hk, hz, rfl, ?_⟩
    have e : (ByteArray.mk l.toArray)[q.length]'hz = l[q.length] := rfl
    rw [e]
    have hlast : l.getLast? = some l[q.length] := by rw [List.getLast?_eq_getElem?, hk, Nat.add_sub_cancel, List.getElem?_eq_getElem hq]
    unfold dropD
    rw [hlast, hk, Nat.add_sub_cancel]
    have i1 : (some l[q.length] = some (100 : UInt8)) ↔ (l[q.length].toNat = 100) := by
      rw [Option.some.injEq, ← UInt8.toNat_inj]; exact Iff.rfl
    have i2 : (some l[q.length] = some (68 : UInt8)) ↔ (l[q.length].toNat = 68) := by
      rw [Option.some.injEq, ← UInt8.toNat_inj]; exact Iff.rfl
    by_cases h1 : l[q.length].toNat = 100
    · exact Or.inl ⟨h1, if_pos (Or.inl (i1.2 h1))⟩
    · by_cases h2 : l[q.length].toNat = 68
      · exact Or.inr (Or.inl ⟨h2, if_pos (Or.inr (i2.2 h2))⟩)
      · exact Or.inr (Or.inr ⟨h1, h2, if_neg (fun h => h.elim (fun e => h1 (i1.1 e)) (fun e => h2 (i2.1 e)))⟩)
attribute [local irreducible] ds dd txt
set_option maxRecDepth 100000 in
set_option maxHeartbeats 4000000 in
theorem rread_nil_no (w : World) 
    (PL : ∀ w, Calls Tryz.prog 33 #[.string ⟨([] : List UInt8).toArray⟩, .bool true] w fun e w' => e = .returned (.tuple #[.agg rzero, .bool false]) ∧ Below w.heap.size w w') :
    Calls Tryz.prog 7 #[.string ⟨([] : List UInt8).toArray⟩] w fun e w' => e = .returned (.tuple #[.string ⟨#[]⟩, .int .i64 2]) ∧ Below w.heap.size w w' := by
  have PL' := Lib.hid PL
  clear PL
  go_enter Tryz.func7, Tryz.ntmps7
  go_wp2_with (first
    | (go_at_call 33; refine (PL'.out _).mono ?_; rintro e w1 ⟨rfl, hb2⟩; have K1 := ((Blk.nil w).kept hb2).more (.cells rzero 48); clear hb2))
  go_ret2
  exact ⟨rfl, K1.below⟩
set_option maxRecDepth 100000 in
set_option maxHeartbeats 4000000 in
theorem rread_d_no (L : List UInt8) (w : World) (k : Nat) (hk : L.length = k + 1) (hl : L.length ≤ 500) (hz : k < (ByteArray.mk L.toArray).size) (C : Nat) (hg : ((ByteArray.mk L.toArray)[k]'hz).toNat = C) (hC : C = 100 ∨ C = 68) 
    (PL : ∀ w, Calls Tryz.prog 33 #[.string ⟨((L.take k) : List UInt8).toArray⟩, .bool true] w fun e w' => e = .returned (.tuple #[.agg rzero, .bool false]) ∧ Below w.heap.size w w') :
    Calls Tryz.prog 7 #[.string ⟨(L : List UInt8).toArray⟩] w fun e w' => e = .returned (.tuple #[.string ⟨#[]⟩, .int .i64 2]) ∧ Below w.heap.size w w' := by
  have PL' := Lib.hid PL
  clear PL
  have e0 : (0 : Int) < (k : Int) + 1 := by omega
  have e1 : (k : Int) + 1 - 1 = (k : Int) := by omega
  have wk : IntKind.i64.wrap (k : Int) = (k : Int) := IntWalk.i64_in _ (by omega)
  have e2 : (k : Int) ≤ (k : Int) + 1 := by omega
  clear hl
  rcases hC with rfl | rfl
  all_goals
    go_enter Tryz.func7, Tryz.ntmps7
    go_wp2_with (first
      | (go_at_call 33; refine (PL'.out _).mono ?_; rintro e w1 ⟨rfl, hb2⟩; have K1 := ((Blk.nil w).kept hb2).more (.cells rzero 48); clear hb2))
    go_ret2
    exact ⟨rfl, K1.below⟩
set_option maxRecDepth 100000 in
set_option maxHeartbeats 4000000 in
theorem rread_d_lim (L : List UInt8) (w : World) (k : Nat) (hk : L.length = k + 1) (hl : L.length ≤ 500) (hz : k < (ByteArray.mk L.toArray).size) (C : Nat) (hg : ((ByteArray.mk L.toArray)[k]'hz).toNat = C) (hC : C = 100 ∨ C = 68) (n : Bool) (v b : Nat) (hb : b ≤ 500) (hlim : ¬ (b ≤ 31 ∧ dl v ≤ 31)) 
    (PL : ∀ w, Calls Tryz.prog 33 #[.string ⟨((L.take k) : List UInt8).toArray⟩, .bool true] w fun e w' => e = .returned (.tuple #[.agg (rcells (sgn n v) v b), .bool true]) ∧ Below w.heap.size w w') :
    Calls Tryz.prog 7 #[.string ⟨(L : List UInt8).toArray⟩] w fun e w' => e = .returned (.tuple #[.string ⟨#[]⟩, .int .i64 4]) ∧ Below w.heap.size w w' := by
  have PL' := Lib.hid PL
  clear PL
  have e0 : (0 : Int) < (k : Int) + 1 := by omega
  have e1 : (k : Int) + 1 - 1 = (k : Int) := by omega
  have wk : IntKind.i64.wrap (k : Int) = (k : Int) := IntWalk.i64_in _ (by omega)
  have e2 : (k : Int) ≤ (k : Int) + 1 := by omega
  clear hl
  rcases hC with rfl | rfl
  all_goals
    have hlim' : (31 : Int) < (b : Int) ∨ (¬ (31 : Int) < (b : Int) ∧ (31 : Int) < (dl v : Int)) := by omega
    have zv := ds_length v
    clear hlim hb
    rcases hlim' with hb' | ⟨hb', hv'⟩
    all_goals
      go_enter Tryz.func7, Tryz.ntmps7
      go_wp2_with (first
        | (go_at_call 33; refine (PL'.out _).mono ?_; rintro e w1 ⟨rfl, hb2⟩; have K1 := ((Blk.nil w).kept hb2).more (.cells (rcells (sgn n v) v b) 48); clear hb2))
      go_ret2
      exact ⟨rfl, K1.below⟩
set_option maxRecDepth 100000 in
set_option maxHeartbeats 4000000 in
theorem rread_d_yes (L : List UInt8) (w : World) (k : Nat) (hk : L.length = k + 1) (hl : L.length ≤ 500) (hz : k < (ByteArray.mk L.toArray).size) (C : Nat) (hg : ((ByteArray.mk L.toArray)[k]'hz).toNat = C) (hC : C = 100 ∨ C = 68) (n : Bool) (v b : Nat) (hb : b ≤ 31) (hv : dl v ≤ 31) 
    (PL : ∀ w, Calls Tryz.prog 33 #[.string ⟨((L.take k) : List UInt8).toArray⟩, .bool true] w fun e w' => e = .returned (.tuple #[.agg (rcells (sgn n v) v b), .bool true]) ∧ Below w.heap.size w w') :
    Calls Tryz.prog 7 #[.string ⟨(L : List UInt8).toArray⟩] w fun e w' => e = .returned (.tuple #[.string ⟨(txt n v b).toArray⟩, .int .i64 0]) ∧ Below w.heap.size w w' := by
  have PL' := Lib.hid PL
  clear PL
  have e0 : (0 : Int) < (k : Int) + 1 := by omega
  have e1 : (k : Int) + 1 - 1 = (k : Int) := by omega
  have wk : IntKind.i64.wrap (k : Int) = (k : Int) := IntWalk.i64_in _ (by omega)
  have e2 : (k : Int) ≤ (k : Int) + 1 := by omega
  clear hl
  rcases hC with rfl | rfl
  all_goals
    have hb' : ¬ (31 : Int) < (b : Int) := by omega
    have hv' : ¬ (31 : Int) < (dl v : Int) := by omega
    have zv := ds_length v
    have TX := Lib.hid (fun w => rtext_any n v b w (by omega) (by omega))
    clear hb hv
    go_enter Tryz.func7, Tryz.ntmps7
    go_wp2_with (first
      | (go_at_call 33; refine (PL'.out _).mono ?_; rintro e w1 ⟨rfl, hb2⟩; have K1 := ((Blk.nil w).kept hb2).more (.cells (rcells (sgn n v) v b) 48); clear hb2)
      | (go_at_call 34; refine (TX.out _).mono ?_; rintro e w5 ⟨rfl, hb2⟩; have K1 := K1.kept hb2; clear hb2))
    go_ret2
    exact ⟨rfl, K1.below⟩
set_option maxRecDepth 100000 in
set_option maxHeartbeats 4000000 in
theorem rread_keep_no (L : List UInt8) (w : World) (k : Nat) (hk : L.length = k + 1) (hl : L.length ≤ 500) (hz : k < (ByteArray.mk L.toArray).size) (C : Nat) (hg : ((ByteArray.mk L.toArray)[k]'hz).toNat = C) (h1 : C ≠ 100) (h2 : C ≠ 68) 
    (PL : ∀ w, Calls Tryz.prog 33 #[.string ⟨(L : List UInt8).toArray⟩, .bool true] w fun e w' => e = .returned (.tuple #[.agg rzero, .bool false]) ∧ Below w.heap.size w w') :
    Calls Tryz.prog 7 #[.string ⟨(L : List UInt8).toArray⟩] w fun e w' => e = .returned (.tuple #[.string ⟨#[]⟩, .int .i64 2]) ∧ Below w.heap.size w w' := by
  have PL' := Lib.hid PL
  clear PL
  have e0 : (0 : Int) < (k : Int) + 1 := by omega
  have e1 : (k : Int) + 1 - 1 = (k : Int) := by omega
  have wk : IntKind.i64.wrap (k : Int) = (k : Int) := IntWalk.i64_in _ (by omega)
  have q1 : ((C : Int) == 100) = false := by rw [beq_eq_false_iff_ne]; omega
  have q2 : ((C : Int) == 68) = false := by rw [beq_eq_false_iff_ne]; omega
  clear h1 h2 hl
  go_enter Tryz.func7, Tryz.ntmps7
  go_wp2_with (first
    | (go_at_call 33; refine (PL'.out _).mono ?_; rintro e w1 ⟨rfl, hb2⟩; have K1 := ((Blk.nil w).kept hb2).more (.cells rzero 48); clear hb2))
  go_ret2
  exact ⟨rfl, K1.below⟩
set_option maxRecDepth 100000 in
set_option maxHeartbeats 4000000 in
theorem rread_keep_lim (L : List UInt8) (w : World) (k : Nat) (hk : L.length = k + 1) (hl : L.length ≤ 500) (hz : k < (ByteArray.mk L.toArray).size) (C : Nat) (hg : ((ByteArray.mk L.toArray)[k]'hz).toNat = C) (h1 : C ≠ 100) (h2 : C ≠ 68) (n : Bool) (v b : Nat) (hb : b ≤ 500) (hlim : ¬ (b ≤ 31 ∧ dl v ≤ 31)) 
    (PL : ∀ w, Calls Tryz.prog 33 #[.string ⟨(L : List UInt8).toArray⟩, .bool true] w fun e w' => e = .returned (.tuple #[.agg (rcells (sgn n v) v b), .bool true]) ∧ Below w.heap.size w w') :
    Calls Tryz.prog 7 #[.string ⟨(L : List UInt8).toArray⟩] w fun e w' => e = .returned (.tuple #[.string ⟨#[]⟩, .int .i64 4]) ∧ Below w.heap.size w w' := by
  have PL' := Lib.hid PL
  clear PL
  have e0 : (0 : Int) < (k : Int) + 1 := by omega
  have e1 : (k : Int) + 1 - 1 = (k : Int) := by omega
  have wk : IntKind.i64.wrap (k : Int) = (k : Int) := IntWalk.i64_in _ (by omega)
  have q1 : ((C : Int) == 100) = false := by rw [beq_eq_false_iff_ne]; omega
  have q2 : ((C : Int) == 68) = false := by rw [beq_eq_false_iff_ne]; omega
  clear h1 h2 hl
  have hlim' : (31 : Int) < (b : Int) ∨ (¬ (31 : Int) < (b : Int) ∧ (31 : Int) < (dl v : Int)) := by omega
  have zv := ds_length v
  clear hlim hb
  rcases hlim' with hb' | ⟨hb', hv'⟩
  all_goals
    go_enter Tryz.func7, Tryz.ntmps7
    go_wp2_with (first
      | (go_at_call 33; refine (PL'.out _).mono ?_; rintro e w1 ⟨rfl, hb2⟩; have K1 := ((Blk.nil w).kept hb2).more (.cells (rcells (sgn n v) v b) 48); clear hb2))
    go_ret2
    exact ⟨rfl, K1.below⟩
set_option maxRecDepth 100000 in
set_option maxHeartbeats 4000000 in
theorem rread_keep_yes (L : List UInt8) (w : World) (k : Nat) (hk : L.length = k + 1) (hl : L.length ≤ 500) (hz : k < (ByteArray.mk L.toArray).size) (C : Nat) (hg : ((ByteArray.mk L.toArray)[k]'hz).toNat = C) (h1 : C ≠ 100) (h2 : C ≠ 68) (n : Bool) (v b : Nat) (hb : b ≤ 31) (hv : dl v ≤ 31) 
    (PL : ∀ w, Calls Tryz.prog 33 #[.string ⟨(L : List UInt8).toArray⟩, .bool true] w fun e w' => e = .returned (.tuple #[.agg (rcells (sgn n v) v b), .bool true]) ∧ Below w.heap.size w w') :
    Calls Tryz.prog 7 #[.string ⟨(L : List UInt8).toArray⟩] w fun e w' => e = .returned (.tuple #[.string ⟨(txt n v b).toArray⟩, .int .i64 0]) ∧ Below w.heap.size w w' := by
  have PL' := Lib.hid PL
  clear PL
  have e0 : (0 : Int) < (k : Int) + 1 := by omega
  have e1 : (k : Int) + 1 - 1 = (k : Int) := by omega
  have wk : IntKind.i64.wrap (k : Int) = (k : Int) := IntWalk.i64_in _ (by omega)
  have q1 : ((C : Int) == 100) = false := by rw [beq_eq_false_iff_ne]; omega
  have q2 : ((C : Int) == 68) = false := by rw [beq_eq_false_iff_ne]; omega
  clear h1 h2 hl
  have hb' : ¬ (31 : Int) < (b : Int) := by omega
  have hv' : ¬ (31 : Int) < (dl v : Int) := by omega
  have zv := ds_length v
  have TX := Lib.hid (fun w => rtext_any n v b w (by omega) (by omega))
  clear hb hv
  go_enter Tryz.func7, Tryz.ntmps7
  go_wp2_with (first
    | (go_at_call 33; refine (PL'.out _).mono ?_; rintro e w1 ⟨rfl, hb2⟩; have K1 := ((Blk.nil w).kept hb2).more (.cells (rcells (sgn n v) v b) 48); clear hb2)
    | (go_at_call 34; refine (TX.out _).mono ?_; rintro e w5 ⟨rfl, hb2⟩; have K1 := K1.kept hb2; clear hb2))
  go_ret2
  exact ⟨rfl, K1.below⟩
theorem rread_all (l : List UInt8) (w : World) (hl : l.length ≤ 500) :
    Calls Tryz.prog 7 #[.string ⟨l.toArray⟩] w fun e w' => e = .returned (.tuple #[.string ⟨(freadR l).1.toArray⟩, .int .i64 (freadR l).2]) ∧ Below w.heap.size w w' := by
  have PL := fun w => plainp_any (dropD l) w (by have := dropD_length l; omega)
  have hcl := (cutDot_length (restS (dropD l))).2
  have hrl := restS_length (dropD l)
  have hdl := dropD_length l
  unfold freadR
  generalize minusS (dropD l) = n at *
  obtain ⟨r, hr⟩ : ∃ r, r = restS (dropD l) := ⟨_, rfl⟩
  rw [← hr] at PL hcl hrl ⊢
  unfold bodyR
  unfold plainR at PL
  by_cases hok : (allOf r).all isD = true ∧ allOf r ≠ []
  · rw [if_pos hok]
    simp only [if_pos hok] at PL
    by_cases hlim : (cutDot r).2.1.length ≤ 31 ∧ dl (valD (allOf r)) ≤ 31
    · rw [if_pos hlim]
      rcases dropD_forms l with ⟨rfl, he⟩ | ⟨k, C, hk, hz, hg, ⟨hC, he⟩ | ⟨hC, he⟩ | ⟨h1, h2, he⟩⟩
      · exact absurd (show allOf r = [] by rw [hr]; have : dropD [] = [] := rfl; rw [this]; rfl) hok.2
      · rw [he] at PL; exact rread_d_yes l w k hk hl hz C hg (Or.inl hC) _ _ _ hlim.1 hlim.2 PL
      · rw [he] at PL; exact rread_d_yes l w k hk hl hz C hg (Or.inr hC) _ _ _ hlim.1 hlim.2 PL
      · rw [he] at PL; exact rread_keep_yes l w k hk hl hz C hg h1 h2 _ _ _ hlim.1 hlim.2 PL
    · rw [if_neg hlim]
      rcases dropD_forms l with ⟨rfl, he⟩ | ⟨k, C, hk, hz, hg, ⟨hC, he⟩ | ⟨hC, he⟩ | ⟨h1, h2, he⟩⟩
      · exact absurd (show allOf r = [] by rw [hr]; have : dropD [] = [] := rfl; rw [this]; rfl) hok.2
      · rw [he] at PL; exact rread_d_lim l w k hk hl hz C hg (Or.inl hC) _ _ _ (by omega) hlim PL
      · rw [he] at PL; exact rread_d_lim l w k hk hl hz C hg (Or.inr hC) _ _ _ (by omega) hlim PL
      · rw [he] at PL; exact rread_keep_lim l w k hk hl hz C hg h1 h2 _ _ _ (by omega) hlim PL
  · rw [if_neg hok]
    simp only [if_neg hok] at PL
    rcases dropD_forms l with ⟨rfl, he⟩ | ⟨k, C, hk, hz, hg, ⟨hC, he⟩ | ⟨hC, he⟩ | ⟨h1, h2, he⟩⟩
    · rw [he] at PL; exact rread_nil_no w PL
    · rw [he] at PL; exact rread_d_no l w k hk hl hz C hg (Or.inl hC) PL
    · rw [he] at PL; exact rread_d_no l w k hk hl hz C hg (Or.inr hC) PL
    · rw [he] at PL; exact rread_keep_no l w k hk hl hz C hg h1 h2 PL
end Go.Proofs.YtkcogoibaodbeaaGreatDoor
namespace Go.Proofs.YtkcogoibaodbeaaGreatDoor
open Go.RowKit
attribute [local go_sem] ByteArray.mk_append_mk ByteArray.extract_mk
def plusS (l : List UInt8) : Bool := match l with
  | [] => false
  | c :: _ => decide (c = 43)
theorem has45 (l : List UInt8) (w : World) : Calls Tryz.prog 28 #[.string ⟨l.toArray⟩, .string ⟨#[45]⟩] w fun e w' => e = .returned (.bool (minusS l)) ∧ w' = w := by
  have h := Tryz.strings_HasPrefix ⟨l.toArray⟩ ⟨#[45]⟩ w
  have e : Lib.hasPrefix (ByteArray.mk l.toArray).data.toList (ByteArray.mk #[45]).data.toList = minusS l := by
    cases l with
    | nil => rfl
    | cons c q =>
      show Lib.hasPrefix (c :: q) [45] = decide (c = 45)
      have e : Lib.hasPrefix (c :: q) [45] = (45 == c) := by unfold Lib.hasPrefix; simp [List.isPrefixOf]
      rw [e]
      by_cases h : c = 45
      · subst h; rfl
      · rw [decide_eq_false h, beq_eq_false_iff_ne]; exact fun e => h e.symm
  rw [e] at h
  exact h
theorem has43 (l : List UInt8) (w : World) : Calls Tryz.prog 28 #[.string ⟨l.toArray⟩, .string ⟨#[43]⟩] w fun e w' => e = .returned (.bool (plusS l)) ∧ w' = w := by
  have h := Tryz.strings_HasPrefix ⟨l.toArray⟩ ⟨#[43]⟩ w
  have e : Lib.hasPrefix (ByteArray.mk l.toArray).data.toList (ByteArray.mk #[43]).data.toList = plusS l := by
    cases l with
    | nil => rfl
    | cons c q =>
      show Lib.hasPrefix (c :: q) [43] = decide (c = 43)
      have e : Lib.hasPrefix (c :: q) [43] = (43 == c) := by unfold Lib.hasPrefix; simp [List.isPrefixOf]
      rw [e]
      by_cases h : c = 43
      · subst h; rfl
      · rw [decide_eq_false h, beq_eq_false_iff_ne]; exact fun e => h e.symm
  rw [e] at h
  exact h
theorem sign_forms (l : List UInt8) : (∃ m : Nat, l.length = m + 1 ∧ (minusS l || plusS l) = true ∧ restS l = l.drop 1) ∨ ((minusS l || plusS l) = false ∧ restS l = l) := by
  cases l with
  | nil => exact Or.inr ⟨rfl, rfl⟩
  | cons c q =>
    have e : restS (c :: q) = if c = 45 ∨ c = 43 then q else c :: q := rfl
    have e2 : (minusS (c :: q) || plusS (c :: q)) = decide (c = 45 ∨ c = 43) := by
      show (decide (c = 45) || decide (c = 43)) = _
      simp
    rw [e, e2]
    by_cases h : c = 45 ∨ c = 43
    · exact Or.inl ⟨q.length, rfl, decide_eq_true h, if_pos h⟩
    · exact Or.inr ⟨decide_eq_false h, if_neg h⟩
theorem dropD_forms2 (R : List UInt8) : ∃ T : Bool, (R = [] ∧ dropD R = [] ∧ T = false) ∨ ∃ (k C : Nat) (hk : R.length = k + 1) (hz : k < (ByteArray.mk R.toArray).size), ((ByteArray.mk R.toArray)[k]'hz).toNat = C ∧
    ((C = 100 ∧ T = true ∧ dropD R = R.take k) ∨ (C = 68 ∧ T = true ∧ dropD R = R.take k) ∨ (C ≠ 100 ∧ C ≠ 68 ∧ T = false ∧ dropD R = R)) := by
  rcases dropD_forms R with ⟨h1, h2⟩ | ⟨k, C, hk, hz, hg, ⟨hC, he⟩ | ⟨hC, he⟩ | ⟨h1, h2, he⟩⟩
  · exact ⟨false, Or.inl ⟨h1, h2, rfl⟩⟩
  · exact ⟨true, Or.inr ⟨k, C, hk, hz, hg, Or.inl ⟨hC, rfl, he⟩⟩⟩
  · exact ⟨true, Or.inr ⟨k, C, hk, hz, hg, Or.inr (Or.inl ⟨hC, rfl, he⟩)⟩⟩
  · exact ⟨false, Or.inr ⟨k, C, hk, hz, hg, Or.inr (Or.inr ⟨h1, h2, rfl, he⟩)⟩⟩
theorem dropD_two (c d : UInt8) (q : List UInt8) : dropD (c :: d :: q) = c :: dropD (d :: q) := by
  unfold dropD
  rw [List.getLast?_cons_cons]
  by_cases h : (d :: q).getLast? = some 100 ∨ (d :: q).getLast? = some 68
  · rw [if_pos h, if_pos h]; rfl
  · rw [if_neg h, if_neg h]
theorem drop_rest (l : List UInt8) : freadR l = bodyR (minusS l) (dropD (restS l)) := by
  unfold freadR
  cases l with
  | nil => rfl
  | cons c q =>
    cases q with
    | nil =>
      by_cases h1 : c = 45
      · subst h1; rfl
      · by_cases h2 : c = 43
        · subst h2; rfl
        · have e : restS [c] = [c] := if_neg (fun h => h.elim h1 h2)
          have e2 : minusS [c] = false := decide_eq_false h1
          rw [e, e2]
          unfold dropD
          split
          · rfl
          · rw [e, e2]
    | cons d q =>
      rw [dropD_two]
      by_cases h : c = 45 ∨ c = 43
      · rw [show restS (c :: dropD (d :: q)) = dropD (d :: q) from if_pos h, show restS (c :: d :: q) = d :: q from if_pos h]; rfl
      · rw [show restS (c :: dropD (d :: q)) = c :: dropD (d :: q) from if_neg h, show restS (c :: d :: q) = c :: d :: q from if_neg h, dropD_two]; rfl
theorem trim_val (A : List UInt8) : valD (Lib.trimLeftB A 48) = valD A := by
  unfold Lib.trimLeftB
  induction A with
  | nil => rfl
  | cons c q ih =>
    rw [List.dropWhile_cons]
    split
    · rename_i h
      have hc : c = 48 := by simpa using h
      rw [ih, valD_cons, hc]
      have : (48 : UInt8).toNat - 48 = 0 := rfl
      rw [this]; omega
    · rfl
theorem trim_digits {A : List UInt8} (h : A.all isD = true) : (Lib.trimLeftB A 48).all isD = true := by
  unfold Lib.trimLeftB
  induction A with
  | nil => rfl
  | cons c q ih =>
    rw [List.dropWhile_cons]
    rw [List.all_cons, Bool.and_eq_true] at h
    split
    · exact ih h.2
    · rw [List.all_cons, h.1, h.2]; rfl
theorem trim_le (A : List UInt8) : (Lib.trimLeftB A 48).length ≤ A.length := (List.dropWhile_sublist _).length_le
theorem trim_head {A : List UInt8} {c : UInt8} {q : List UInt8} (h : Lib.trimLeftB A 48 = c :: q) : c ≠ 48 := by
  unfold Lib.trimLeftB at h
  induction A with
  | nil => cases h
  | cons a s ih =>
    rw [List.dropWhile_cons] at h
    split at h
    · exact ih h
    · rename_i hn
      injection h with h1 h2
      rw [← h1]
      simpa using hn
theorem trim_len {A : List UInt8} (h : A.all isD = true) : (Lib.trimLeftB A 48).length ≤ 31 ↔ dl (valD A) ≤ 31 := by
  rw [dl_le_iff _ _ (by decide), ← trim_val A]
  have hd := trim_digits h
  constructor
  · intro hl
    exact Nat.lt_of_lt_of_le (valD_lt hd) (Nat.pow_le_pow_right (by decide) hl)
  · intro hv
    cases hT : Lib.trimLeftB A 48 with
    | nil => simp
    | cons c q =>
      have h48 := trim_head hT
      rw [hT] at hd hv
      rw [List.all_cons, Bool.and_eq_true] at hd
      have hc := (isD_nat c).1 hd.1
      have hn : c.toNat ≠ 48 := fun e => h48 (by rw [← UInt8.toNat_inj]; exact e)
      rw [valD_cons] at hv
      rw [List.length_cons]
      rcases Nat.lt_or_ge q.length 31 with hq | hq
      · omega
      · have h1 : 10 ^ 31 ≤ 10 ^ q.length := Nat.pow_le_pow_right (by decide) hq
        have h2 : 1 * 10 ^ q.length ≤ (c.toNat - 48) * 10 ^ q.length := Nat.mul_le_mul_right _ (by omega)
        omega
attribute [local irreducible] ncells wcells ds dd txt
set_option maxRecDepth 100000 in
set_option maxHeartbeats 4000000 in
theorem fread_all (l : List UInt8) (w : World) (hl : l.length ≤ 500) :
    Calls Tryz.prog 6 #[.string ⟨l.toArray⟩] w fun e w' => e = .returned (.tuple #[.string ⟨(freadR l).1.toArray⟩, .int .i64 (freadR l).2]) ∧ Below w.heap.size w w' := by
  obtain ⟨out, ho⟩ : ∃ out, freadR l = out := ⟨_, rfl⟩
  rw [ho]
  have HOo := Lib.hid ho
  clear ho
  have K0 := Blk.nil w
  have SF := sign_forms l
  obtain ⟨M, hM⟩ : ∃ M, minusS l = M := ⟨_, rfl⟩
  obtain ⟨P, hP⟩ : ∃ P, plusS l = P := ⟨_, rfl⟩
  obtain ⟨R, hR⟩ : ∃ R, restS l = R := ⟨_, rfl⟩
  have H45 := fun w => has45 l w
  have H43 := fun w => has43 l w
  rw [hM, hP, hR] at SF
  obtain ⟨S, hS⟩ : ∃ S, (M || P) = S := ⟨_, rfl⟩
  rw [hS] at SF
  have HS := Lib.hid hS
  rw [hM] at H45
  rw [hP] at H43
  have h45 := Lib.hid H45
  have h43 := Lib.hid H43
  have HM := Lib.hid hM
  have HR := Lib.hid hR
  have SF' := Lib.hid SF
  clear H45 H43 hM hP hR SF hS
  go_enter Tryz.func6, Tryz.ntmps6
  go_upto_region 3 with (go_at_call 28; refine (h45.out _).mono ?_; rintro e wz ⟨rfl, hwz⟩; obtain rfl := hwz.symm)
  go_cut [4, 5, 22] (fun s4 s5 s22 wx => s4 = .string ⟨l.toArray⟩ ∧ s5 = .bool M ∧ s22 = .bool S ∧ Blk w wx [])
  case first =>
    cases M
    · go_wp2_with (go_at_call 28; refine (h43.out _).mono ?_; rintro e wz ⟨rfl, hwz⟩; obtain rfl := hwz.symm)
      go_meet
      exact ⟨rfl, rfl, by rw [← HS.out]; simp, K0⟩
    · go_wp2
      go_meet
      exact ⟨rfl, rfl, by rw [← HS.out]; simp, K0⟩
  case rest =>
  obtain ⟨rfl, rfl, rfl, K1⟩ := hcut
  clear K0
  go_upto_if 22 with fail
  go_cut [4, 5] (fun s4 s5 wx => s4 = .string ⟨R.toArray⟩ ∧ s5 = .bool M ∧ Blk w wx [])
  case first =>
    rcases SF'.out with ⟨m, hm, hs, hr⟩ | ⟨hs, hr⟩
    · have m1 : (1 : Int) ≤ (m : Int) + 1 := by omega
      subst hs
      go_wp2
      go_meet
      exact ⟨by rw [hr, ← List.drop_one, List.take_of_length_le (by simp; omega)], rfl, K1⟩
    · subst hs
      go_wp2
      go_meet
      exact ⟨by rw [hr], rfl, K1⟩
  case rest =>
  obtain ⟨rfl, rfl, K2⟩ := hcut
  clear K1 SF' h45 h43
  obtain ⟨T, hT⟩ := dropD_forms2 R
  obtain ⟨Dd, hD⟩ : ∃ Dd, dropD R = Dd := ⟨_, rfl⟩
  rw [hD] at hT
  have HT := Lib.hid hT
  have HD := Lib.hid hD
  clear hT hD
  have hRl : R.length ≤ 500 := by have := restS_length l; rw [HR.out] at this; omega
  have hDl : Dd.length ≤ 500 := by have := dropD_length R; rw [HD.out] at this; omega
  go_upto_region 6 with fail
  go_cut [4, 5, 6, 42] (fun s4 s5 s6 s42 wx => s4 = .string ⟨R.toArray⟩ ∧ s5 = .bool M ∧ s6 = .int .i64 R.length ∧ s42 = .bool T ∧ Blk w wx [])
  case first =>
    rcases HT.out with ⟨h1, h2, h3⟩ | ⟨k, C, hk, hz, hg, ⟨hC, h3, he⟩ | ⟨hC, h3, he⟩ | ⟨h1, h2, h3, he⟩⟩
    · subst h1
      go_wp2
      go_meet
      exact ⟨rfl, rfl, rfl, by rw [h3], K2⟩
    all_goals
      have e0 : (0 : Int) < (k : Int) + 1 := by omega
      have e1 : (k : Int) + 1 - 1 = (k : Int) := by omega
      have wk : IntKind.i64.wrap (k : Int) = (k : Int) := IntWalk.i64_in _ (by omega)
      clear hDl hRl
    · subst hC
      go_wp2
      go_meet
      exact ⟨rfl, rfl, by simp [hk], by rw [h3], K2⟩
    · subst hC
      go_wp2
      go_meet
      exact ⟨rfl, rfl, by simp [hk], by rw [h3], K2⟩
    · have q1 : ((C : Int) == 100) = false := by rw [beq_eq_false_iff_ne]; omega
      have q2 : ((C : Int) == 68) = false := by rw [beq_eq_false_iff_ne]; omega
      go_wp2
      go_meet
      exact ⟨rfl, rfl, by simp [hk], by rw [h3], K2⟩
  case rest =>
  obtain ⟨rfl, rfl, rfl, rfl, K3⟩ := hcut
  clear K2
  go_upto_if 42 with fail
  go_cut [4, 5, 6] (fun s4 s5 s6 wx => s4 = .string ⟨Dd.toArray⟩ ∧ s5 = .bool M ∧ Blk w wx [])
  case first =>
    rcases HT.out with ⟨h1, h2, h3⟩ | ⟨k, C, hk, hz, hg, ⟨hC, h3, he⟩ | ⟨hC, h3, he⟩ | ⟨h1, h2, h3, he⟩⟩
    · subst h1
      subst h3
      go_wp2
      go_meet
      exact ⟨by rw [h2], rfl, K3⟩
    · subst h3
      have e1 : (k : Int) + 1 - 1 = (k : Int) := by omega
      have e2 : (k : Int) ≤ (k : Int) + 1 := by omega
      have wk : IntKind.i64.wrap (k : Int) = (k : Int) := IntWalk.i64_in _ (by omega)
      clear hDl hRl
      go_wp2
      go_meet
      exact ⟨by rw [he]; try simp, rfl, K3⟩
    · subst h3
      have e1 : (k : Int) + 1 - 1 = (k : Int) := by omega
      have e2 : (k : Int) ≤ (k : Int) + 1 := by omega
      have wk : IntKind.i64.wrap (k : Int) = (k : Int) := IntWalk.i64_in _ (by omega)
      clear hDl hRl
      go_wp2
      go_meet
      exact ⟨by rw [he]; try simp, rfl, K3⟩
    · subst h3
      go_wp2
      go_meet
      exact ⟨by rw [he], rfl, K3⟩
  case rest =>
  obtain ⟨rfl, rfl, K4⟩ := hcut
  have hOUT : freadR l = bodyR M Dd := by rw [drop_rest, HM.out, HR.out, HD.out]
  have hcl := cutDot_length Dd
  obtain ⟨Wh, hWh⟩ : ∃ Wh, (cutDot Dd).1 = Wh := ⟨_, rfl⟩
  obtain ⟨Pa, hPa⟩ : ∃ Pa, (cutDot Dd).2.1 = Pa := ⟨_, rfl⟩
  obtain ⟨pt, hpt⟩ : ∃ pt, (cutDot Dd).2.2 = pt := ⟨_, rfl⟩
  have hal := all_length Dd
  have hAA : allOf Dd = Wh ++ Pa := by rw [← hWh, ← hPa]; rfl
  obtain ⟨A, hA⟩ : ∃ A, Wh ++ Pa = A := ⟨_, rfl⟩
  rw [hA] at hAA
  have CU0 := fun w => cut_any Dd w (by omega)
  rw [hWh, hPa, hpt] at CU0
  have CU := Lib.hid CU0
  unfold bodyR at hOUT
  rw [hAA, hPa] at hOUT
  rw [hAA] at hal
  rw [hWh, hPa] at hcl
  have hPl : Pa.length ≤ 500 := by omega
  have hWl : Wh.length ≤ 500 := by omega
  have hAl : A.length ≤ 500 := by omega
  rw [HOo.out] at hOUT
  have HO := Lib.hid hOUT
  have hlen : Wh.length + Pa.length = A.length := by rw [← hA, List.length_append]
  have hb1 : Wh.length + Pa.length ≤ 9223372036854775807 := by omega
  have TL := Lib.hid (fun w => Tryz.strings_TrimLeft_one ⟨A.toArray⟩ 48 (by decide) w)
  clear K3 HT hRl hOUT CU0 HOo hAA hPa hWh hpt hcl hal hDl HD HR HM HS
  go_wp2_with (go_at_call 29; refine (CU.out _).mono ?_; rintro e w1 ⟨rfl, hb⟩; have K5 := K4.kept hb; clear hb)
  go_loopw [57] (fun s57 W => ∃ i : Nat, i ≤ A.length ∧ s57 = .int .i64 i ∧ Hid ((A.take i).all isD = true) ∧ Blk w W []) (fun s57 _ => A.length - (intOf s57).toNat)
  case atStart => exact ⟨0, by omega, rfl, rfl, K5⟩
  case round =>
    obtain ⟨i, hi, rfl, HA, K6⟩ := hrel
    clear K4 K5
    by_cases hlt : i < A.length
    · have ht : (i : Int) < (A.length : Int) := by omega
      have hsz : i < (ByteArray.mk A.toArray).size := by simpa [ByteArray.size] using hlt
      obtain ⟨C, hC⟩ : ∃ C, A[i].toNat = C := ⟨_, rfl⟩
      have hg : ((ByteArray.mk A.toArray)[i]'hsz).toNat = C := by rw [← hC]; rfl
      have wi : IntKind.i64.wrap ((i : Int) + 1) = (i : Int) + 1 := IntWalk.i64_in _ (by omega)
      by_cases hD : 48 ≤ C ∧ C ≤ 57
      · have q1 : ¬ (C : Int) < 48 := by omega
        have q2 : ¬ (57 : Int) < (C : Int) := by omega
        have HA2 : Hid ((A.take (i + 1)).all isD = true) := by
          unfold Hid
          rw [List.take_succ_eq_append_getElem hlt, List.all_append, HA.out]
          have : isD A[i] = true := (isD_nat _).2 (by omega)
          simp [this]
        clear hC hD
        go_wp2
        exact ⟨⟨i + 1, by omega, rfl, HA2, K6⟩, by simp [intOf]; omega⟩
      · have hno : out = ([], 2) := by
          have := HO.out
          rw [if_neg] at this
          · exact this
          · intro h
            have h1 := List.all_eq_true.1 h.1 A[i] (List.getElem_mem _)
            have := (isD_nat _).1 h1
            omega
        have q : (C : Int) < 48 ∨ (¬ (C : Int) < 48 ∧ (57 : Int) < (C : Int)) := by omega
        subst hno
        clear hC hD
        rcases q with q | ⟨q, q2⟩
        all_goals
          go_wp2
          go_ret2
          exact ⟨rfl, K6.below⟩
    · have hin : i = A.length := by omega
      subst hin
      have hd : A.all isD = true := by have := HA.out; rwa [List.take_length] at this
      have ht : ¬ (A.length : Int) < (A.length : Int) := by omega
      have hO := HO.out
      rw [show A.all isD = true from hd] at hO
      have hti := trim_val A
      have htl := trim_len hd
      have htl2 := trim_le A
      have htd := trim_digits hd
      obtain ⟨T, hT⟩ : ∃ T, Lib.trimLeftB A 48 = T := ⟨_, rfl⟩
      have TL2 : ∀ w, Calls Tryz.prog 30 #[.string ⟨A.toArray⟩, .string ⟨#[48]⟩] w fun e w' => e = .returned (.string ⟨T.toArray⟩) ∧ w' = w := by rw [← hT]; exact TL.out
      rw [hT] at hti htl htl2 htd
      have TL3 := Lib.hid TL2
      clear TL TL2 HO hT HA
      cases hE : A.isEmpty with
      | true =>
        have hno : out = ([], 2) := by rw [hO, if_neg (fun h => h.2 (List.isEmpty_iff.1 hE))]
        subst hno
        clear hO hti htl htl2 htd hd
        go_wp2
        go_ret2
        exact ⟨rfl, K6.below⟩
      | false =>
        have hne : A ≠ [] := fun e => by rw [e] at hE; cases hE
        rw [if_pos ⟨rfl, hne⟩, ← hti] at hO
        rw [← hti] at htl
        clear hti hne hd
        by_cases h128 : T.length ≤ 128
        · have DY := Lib.hid (fun w => digits_yes ⟨T.toArray⟩ w htd (by simpa [ByteArray.size] using h128))
          have hVB : valD T < Big := Nat.lt_of_lt_of_le (valD_lt htd) (Nat.pow_le_pow_right (by decide) h128)
          obtain ⟨V, hV⟩ : ∃ V, valD T = V := ⟨_, rfl⟩
          have DY0 := DY.out
          change ∀ w, Calls Tryz.prog 31 #[.string ⟨T.toArray⟩] w fun e w' => e = .returned (.tuple #[.agg (wcells (valD T)), .bool true]) ∧ Below w.heap.size w w' at DY0
          rw [hV] at DY0 hO htl hVB
          clear DY
          have DY := Lib.hid DY0
          clear DY0 htd h128 hV
          by_cases h31 : T.length ≤ 31
          · by_cases hp31 : Pa.length ≤ 31
            · rw [if_pos ⟨hp31, htl.1 h31⟩] at hO
              have p1 : ¬ (31 : Int) < (T.length : Int) := by omega
              have p2 : ¬ (31 : Int) < (Pa.length : Int) := by omega
              have TX := Lib.hid (fun w => text_any M V Pa.length w hVB (by omega))
              obtain ⟨n, hn⟩ : ∃ n, Pa.length = n := ⟨_, rfl⟩
              rw [hn] at TX hO p2
              subst hO
              clear h31 hp31 htl hVB
              go_wp2_with (first
              | (go_at_call 30; refine (TL3.out _).mono ?_; rintro e wz ⟨rfl, hwz⟩; obtain rfl := hwz.symm)
              | (go_at_call 31; refine (DY.out _).mono ?_; rintro e w7 ⟨rfl, hb⟩; have K7 := (K6.kept hb).more (.cells (wcells V) 41); have X7 := (Blk.nil w7).lay rfl (wcells V) 41; have r7 : rowOf _ (w7.heap.size) = _ := X7.row 0 _ rfl; have f7 := X7.fr 0 rfl; clear hb)
              | (go_at_call 32; refine (TX.out _).mono ?_; rintro e w8 ⟨rfl, hb⟩; have K8 := K7.kept hb; clear hb))
              go_ret2
              exact ⟨rfl, K8.below⟩
            · rw [if_neg (fun h => hp31 h.1)] at hO
              have p1 : ¬ (31 : Int) < (T.length : Int) := by omega
              have p2 : (31 : Int) < (Pa.length : Int) := by omega
              subst hO
              clear h31 hp31 htl hVB
              go_wp2_with (first
              | (go_at_call 30; refine (TL3.out _).mono ?_; rintro e wz ⟨rfl, hwz⟩; obtain rfl := hwz.symm)
              | (go_at_call 31; refine (DY.out _).mono ?_; rintro e w7 ⟨rfl, hb⟩; have K7 := (K6.kept hb).more (.cells (wcells V) 41); have X7 := (Blk.nil w7).lay rfl (wcells V) 41; have r7 : rowOf _ (w7.heap.size) = _ := X7.row 0 _ rfl; have f7 := X7.fr 0 rfl; clear hb))
              go_ret2
              exact ⟨rfl, K7.below⟩
          · rw [if_neg (fun h => h31 (htl.2 h.2))] at hO
            have p1 : (31 : Int) < (T.length : Int) := by omega
            subst hO
            clear h31 htl hVB
            go_wp2_with (first
              | (go_at_call 30; refine (TL3.out _).mono ?_; rintro e wz ⟨rfl, hwz⟩; obtain rfl := hwz.symm)
              | (go_at_call 31; refine (DY.out _).mono ?_; rintro e w7 ⟨rfl, hb⟩; have K7 := (K6.kept hb).more (.cells (wcells V) 41); have X7 := (Blk.nil w7).lay rfl (wcells V) 41; have r7 : rowOf _ (w7.heap.size) = _ := X7.row 0 _ rfl; have f7 := X7.fr 0 rfl; clear hb))
            go_ret2
            exact ⟨rfl, K7.below⟩
        · have hno : out = ([], 4) := by rw [hO, if_neg]; intro h; have := htl.2 h.2; omega
          have DN := Lib.hid (fun w => digits_no ⟨T.toArray⟩ w (by unfold maxLen; simp [ByteArray.size]; omega) (by intro h; apply h128; simpa [ByteArray.size] using h.2))
          subst hno
          clear hO htl htd
          go_wp2_with (first
            | (go_at_call 30; refine (TL3.out _).mono ?_; rintro e wz ⟨rfl, hwz⟩; obtain rfl := hwz.symm)
            | (go_at_call 31; refine (DN.out _).mono ?_; rintro e w7 ⟨m, hm, rfl, hb⟩; have K7 := K6.kept hb; clear hb))
          go_ret2
          exact ⟨rfl, (K7.more _).below⟩
end Go.Proofs.YtkcogoibaodbeaaGreatDoor
namespace Go.Proofs.YtkcogoibaodbeaaGreatDoor
open Go.RowKit
def TextSays (k : Nat) (x : ByteArray) (r : List UInt8 × Int) : Prop := ∀ w, Calls Tryz.prog k #[.string x] w fun e w' => e = .returned (.tuple #[.string ⟨r.1.toArray⟩, .int .i64 r.2]) ∧ Below w.heap.size w w'
def NumSays (k : Nat) (x : ByteArray) (r : Int × Int) : Prop := ∀ w, Calls Tryz.prog k #[.string x] w fun e w' => e = .returned (.tuple #[.int .i64 r.1, .int .i64 r.2]) ∧ Below w.heap.size w w'
def BoolSays (k : Nat) (x : ByteArray) (r : Bool) : Prop := ∀ w, Calls Tryz.prog k #[.string x] w fun e w' => e = .returned (.bool r) ∧ Below w.heap.size w w'
def MakeSays (k : Nat) (v s : Int) (r : List UInt8 × Int) : Prop := ∀ w, Calls Tryz.prog k #[.int .i64 v, .int .i64 s] w fun e w' => e = .returned (.tuple #[.string ⟨r.1.toArray⟩, .int .i64 r.2]) ∧ Below w.heap.size w w'
set_option maxRecDepth 100000 in
set_option maxHeartbeats 1000000 in
theorem reads_long (x : ByteArray) (v t : Int) (w : World) (hx : x.size ≤ 1125899906842624) (h : 500 < x.size) :
    Calls Tryz.prog 3 #[.string x, .int .i64 v, .int .i64 t] w fun e w' => e = .returned (.bool true) ∧ Below w.heap.size w w' := by
  have T0 := (Blk.nil w).lay rfl #[.string x] 9
  have c0 : World.cell? _ ⟨w.heap.size, 0, none⟩ = some (.string x) := T0.cell 0 rfl 0
  have LO := long_one x w.heap.size _ hx c0
  rw [decide_eq_true h] at LO
  have LO' := Lib.hid LO
  clear LO
  go_enter Tryz.func3, Tryz.ntmps3
  go_wp2_with (first
    | (go_at_call 4; refine LO'.out.mono ?_; rintro e w1 ⟨rfl, rfl⟩)
    | (go_at_call 5; refine (awake_any _).mono ?_; rintro e w3 ⟨rfl, hb⟩; have K3 := T0.kept hb; clear hb))
  go_ret
  exact ⟨rfl, K3.below⟩
set_option maxRecDepth 100000 in
set_option maxHeartbeats 8000000 in
theorem reads_walk (x : ByteArray) (v t : Int) (a1 : List UInt8) (a2 : Int) (f : Bool) (c1 c2 : Int) (d1 d2 : Int) (b1 : List UInt8) (b2 : Int) (i1 i2 : Int) (n1 : List UInt8) (n2 : Int) (s1 : List UInt8) (s2 : Int) (r1 : List UInt8) (r2 : Int) (w : World) (hx : x.size ≤ 500)
    (h1 : TextSays 6 x (a1, a2))
    (h2 : TextSays 7 x (a1, a2))
    (h3 : BoolSays 8 x f)
    (h4 : BoolSays 9 x f)
    (h5 : NumSays 10 x (c1, c2))
    (h6 : NumSays 11 x (c1, c2))
    (h7 : NumSays 12 x (d1, d2))
    (h8 : NumSays 13 x (d1, d2))
    (h9 : MakeSays 14 v t (b1, b2))
    (h10 : MakeSays 15 v t (b1, b2))
    (h11 : NumSays 16 x (i1, i2))
    (h12 : NumSays 17 x (i1, i2))
    (h13 : TextSays 18 x (n1, n2))
    (h14 : TextSays 19 x (n1, n2))
    (h15 : TextSays 20 x (s1, s2))
    (h16 : TextSays 21 x (s1, s2))
    (h17 : TextSays 22 x (r1, r2))
    (h18 : TextSays 23 x (r1, r2)) :
    Calls Tryz.prog 3 #[.string x, .int .i64 v, .int .i64 t] w fun e w' => e = .returned (.bool true) ∧ Below w.heap.size w w' := by
  have T0 := (Blk.nil w).lay rfl #[.string x] 9
  have c0 : World.cell? _ ⟨w.heap.size, 0, none⟩ = some (.string x) := T0.cell 0 rfl 0
  have LO := long_one x w.heap.size _ (by omega) c0
  rw [decide_eq_false (by omega)] at LO
  have LO' := Lib.hid LO
  have H1 := Lib.hid h1
  have H2 := Lib.hid h2
  have H3 := Lib.hid h3
  have H4 := Lib.hid h4
  have H5 := Lib.hid h5
  have H6 := Lib.hid h6
  have H7 := Lib.hid h7
  have H8 := Lib.hid h8
  have H9 := Lib.hid h9
  have H10 := Lib.hid h10
  have H11 := Lib.hid h11
  have H12 := Lib.hid h12
  have H13 := Lib.hid h13
  have H14 := Lib.hid h14
  have H15 := Lib.hid h15
  have H16 := Lib.hid h16
  have H17 := Lib.hid h17
  have H18 := Lib.hid h18
  clear LO h1 h2 h3 h4 h5 h6 h7 h8 h9 h10 h11 h12 h13 h14 h15 h16 h17 h18
  go_enter Tryz.func3, Tryz.ntmps3
  go_wp2_with (first
    | (go_at_call 4; refine LO'.out.mono ?_; rintro e w1 ⟨rfl, rfl⟩)
    | (go_at_call 6; refine (H1.out _).mono ?_; rintro e w1 ⟨rfl, hb⟩; have K1 := T0.kept hb; clear hb)
    | (go_at_call 7; refine (H2.out _).mono ?_; rintro e w2 ⟨rfl, hb⟩; have K2 := K1.kept hb; clear hb)
    | (go_at_call 8; refine (H3.out _).mono ?_; rintro e w3 ⟨rfl, hb⟩; have K3 := K2.kept hb; clear hb)
    | (go_at_call 9; refine (H4.out _).mono ?_; rintro e w4 ⟨rfl, hb⟩; have K4 := K3.kept hb; clear hb)
    | (go_at_call 10; refine (H5.out _).mono ?_; rintro e w5 ⟨rfl, hb⟩; have K5 := K4.kept hb; clear hb)
    | (go_at_call 11; refine (H6.out _).mono ?_; rintro e w6 ⟨rfl, hb⟩; have K6 := K5.kept hb; clear hb)
    | (go_at_call 12; refine (H7.out _).mono ?_; rintro e w7 ⟨rfl, hb⟩; have K7 := K6.kept hb; clear hb)
    | (go_at_call 13; refine (H8.out _).mono ?_; rintro e w8 ⟨rfl, hb⟩; have K8 := K7.kept hb; clear hb)
    | (go_at_call 14; refine (H9.out _).mono ?_; rintro e w9 ⟨rfl, hb⟩; have K9 := K8.kept hb; clear hb)
    | (go_at_call 15; refine (H10.out _).mono ?_; rintro e w10 ⟨rfl, hb⟩; have K10 := K9.kept hb; clear hb)
    | (go_at_call 16; refine (H11.out _).mono ?_; rintro e w11 ⟨rfl, hb⟩; have K11 := K10.kept hb; clear hb)
    | (go_at_call 17; refine (H12.out _).mono ?_; rintro e w12 ⟨rfl, hb⟩; have K12 := K11.kept hb; clear hb)
    | (go_at_call 18; refine (H13.out _).mono ?_; rintro e w13 ⟨rfl, hb⟩; have K13 := K12.kept hb; clear hb)
    | (go_at_call 19; refine (H14.out _).mono ?_; rintro e w14 ⟨rfl, hb⟩; have K14 := K13.kept hb; clear hb)
    | (go_at_call 20; refine (H15.out _).mono ?_; rintro e w15 ⟨rfl, hb⟩; have K15 := K14.kept hb; clear hb)
    | (go_at_call 21; refine (H16.out _).mono ?_; rintro e w16 ⟨rfl, hb⟩; have K16 := K15.kept hb; clear hb)
    | (go_at_call 22; refine (H17.out _).mono ?_; rintro e w17 ⟨rfl, hb⟩; have K17 := K16.kept hb; clear hb)
    | (go_at_call 23; refine (H18.out _).mono ?_; rintro e w18 ⟨rfl, hb⟩; have K18 := K17.kept hb; clear hb)
    | (go_at_call 5; have KK := K18; clear KK; refine (awake_any _).mono ?_; rintro e w19 ⟨rfl, hb⟩; have K19 := K18.kept hb; clear hb))
  go_ret
  exact ⟨rfl, K19.below⟩
theorem reads_any (x : ByteArray) (v t : Int) (w : World) (hx : x.size ≤ 1125899906842624) (h1 : -9223372036854775808 ≤ v) (h2 : v < 9223372036854775808) :
    Calls Tryz.prog 3 #[.string x, .int .i64 v, .int .i64 t] w fun e w' => e = .returned (.bool true) ∧ Below w.heap.size w w' := by
  by_cases h : 500 < x.size
  · exact reads_long x v t w hx h
  · obtain ⟨l, rfl⟩ : ∃ l : List UInt8, x = ⟨l.toArray⟩ := ⟨x.data.toList, by cases x; simp⟩
    have hls : (ByteArray.mk l.toArray).size = l.length := rfl
    have hl : l.length ≤ 500 := by rw [hls] at h; omega
    exact reads_walk _ v t (freadR l).1 (freadR l).2 (parseB l) (scaleR l).1 (scaleR l).2 (digsR l).1 (digsR l).2 (ofR v t).1 (ofR v t).2 (intR l).1 (intR l).2 (negR l).1 (negR l).2 (absR l).1 (absR l).2 (trimR l).1 (trimR l).2 w (by omega)
      (fun w => fread_all l w hl) (fun w => rread_all l w hl) (fun w => valid_all l w hl) (fun w => rvalid_all l w hl) (fun w => scale_all l w hl) (fun w => rscale_all l w hl) (fun w => digits_all l w hl) (fun w => rdigits_all l w hl) (fun w => of_all v t w h1 h2) (fun w => rof_all v t w h1 h2) (fun w => int_all l w hl) (fun w => rint_all l w hl) (fun w => neg_all l w hl) (fun w => rneg_all l w hl) (fun w => abs_all l w hl) (fun w => rabs_all l w hl) (fun w => trim_all l w hl) (fun w => rtrim_all l w hl)
end Go.Proofs.YtkcogoibaodbeaaGreatDoor
