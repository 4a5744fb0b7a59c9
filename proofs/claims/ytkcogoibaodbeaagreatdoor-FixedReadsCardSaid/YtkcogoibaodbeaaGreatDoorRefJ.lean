/- The references' plain. The references' read, two. -/
import Derived.Test.YtkcogoibaodbeaaGreatDoorRefH
set_option linter.unusedVariables false
set_option linter.unusedSimpArgs false
namespace Go.Proofs.YtkcogoibaodbeaaGreatDoor
open Go.RowKit
attribute [local go_sem] ByteArray.mk_append_mk ByteArray.extract_mk
/-- Digits without the point. -/
def allOf (r : List UInt8) : List UInt8 := (cutDot r).1 ++ (cutDot r).2.1
/-- What plain answers, behind the sign. -/
def plainR (neg : Bool) (r : List UInt8) : Array Value :=
  if (allOf r).all isD = true ∧ allOf r ≠ [] then
    #[.agg (rcells (sgn neg (valD (allOf r))) (valD (allOf r)) (cutDot r).2.1.length), .bool true]
  else #[.agg rzero, .bool false]
theorem plainR_no {neg : Bool} {r : List UInt8} (h : scan r 0 false (-1) 0 = none) : plainR neg r = #[.agg rzero, .bool false] := by
  rw [scan_cut] at h
  unfold plainR allOf
  rw [if_neg]
  intro h2
  rw [if_pos h2.1] at h
  cases h
theorem plainR_nil {neg : Bool} {r : List UInt8} (h : allOf r = []) : plainR neg r = #[.agg rzero, .bool false] := by
  unfold plainR
  rw [if_neg (fun e => e.2 h)]
theorem scan_yes {r : List UInt8} {p : Bool} {f : Int} {b : Nat} (h : scan r 0 false (-1) 0 = some (p, f, b)) :
    (allOf r).all isD = true ∧ p = (cutDot r).2.2 ∧ b = (cutDot r).2.1.length ∧ (p = true → f = ((cutDot r).1.length : Int)) := by
  rw [scan_cut] at h
  split at h
  · rename_i hd
    injection h with h
    injection h with h1 h
    injection h with h2 h3
    refine ⟨hd, h1.symm, by omega, fun hp => ?_⟩
    rw [← h1] at hp
    rw [if_pos hp] at h2
    omega
  · cases h
theorem made_list (neg : Bool) (l : List UInt8) (s : Nat) (w : World) (h : l.all isD = true) (hl : l.length ≤ 1000) :
    Calls Tryz.prog 42 #[.bool neg, .string ⟨l.toArray⟩, .int .i64 s] w fun e w' => e = .returned (.agg (rcells (sgn neg (valD l)) (valD l) s)) ∧ Below w.heap.size w w' := by
  have := made_any neg (valD l) l.length s w (valD_lt h) hl
  rw [← dd_of_all h] at this
  exact this
theorem all_length (r : List UInt8) : (allOf r).length ≤ r.length := by
  cases hp : (cutDot r).2.2 with
  | true =>
    obtain ⟨h1, h2⟩ := cut_join r hp
    unfold allOf
    rw [← h1, List.length_append, List.length_take, List.length_drop]; omega
  | false =>
    have := cut_nopoint r hp
    unfold allOf
    rw [this]; exact Nat.le_refl _
theorem isD_nat (c : UInt8) : isD c = true ↔ 48 ≤ c.toNat ∧ c.toNat ≤ 57 := by unfold isD; simp
attribute [local irreducible] ds dd
set_option maxRecDepth 100000 in
set_option maxHeartbeats 4000000 in
theorem plain_minus (r : List UInt8) (w : World) (hl : r.length ≤ 500)  :
    Calls Tryz.prog 33 #[.string ⟨(45 :: r).toArray⟩, .bool false] w fun e w' => e = .returned (.tuple (plainR true r)) ∧ Below w.heap.size w w' := by
  have T0 := (Blk.nil w).lay rfl rzero 48
  go_enter Tryz.func33, Tryz.ntmps33
  go_wp2
  go_loopw [7, 8, 9, 35] (fun s7 s8 s9 s35 W => ∃ (i b : Nat) (p : Bool) (f : Int), i ≤ r.length ∧ b ≤ i ∧ s7 = .int .i64 (b : Int) ∧ s8 = .bool p ∧ s9 = .int .i64 f ∧ s35 = .int .i64 (i : Int) ∧ scan (r.drop i) i p f b = scan r 0 false (-1) 0 ∧ Blk w W [rzero]) (fun _ _ _ s35 _ => r.length - (intOf s35).toNat)
  case atStart => exact ⟨0, 0, false, -1, by omega, by omega, rfl, rfl, rfl, rfl, rfl, T0⟩
  case round =>
    obtain ⟨i, b, p, f, hi, hbi, rfl, rfl, rfl, rfl, hs, T1⟩ := hrel
    have r0 : rowOf _ (w.heap.size) = _ := T1.row 0 _ rfl
    have f0 : freeOf _ (w.heap.size) = _ := T1.fr 0 rfl
    by_cases hlt : i < r.length
    · have ht : (i : Int) < (r.length : Int) := by omega
      rw [List.drop_eq_getElem_cons hlt, scan] at hs
      obtain ⟨c, hc⟩ : ∃ c, r[i] = c := ⟨_, rfl⟩
      rw [hc] at hs
      obtain ⟨C, hC⟩ : ∃ C : Nat, c.toNat = C := ⟨_, rfl⟩
      have hg : ((ByteArray.mk r.toArray)[i]'(by simpa [ByteArray.size] using hlt)).toNat = C := by
        rw [← hC, ← hc]; rfl
      have wi : IntKind.i64.wrap ((i : Int) + 1) = (i : Int) + 1 := IntWalk.i64_in _ (by omega)
      have wb : IntKind.i64.wrap ((b : Int) + 1) = (b : Int) + 1 := IntWalk.i64_in _ (by omega)
      have c46 : (c = 46) = (C = 46) := by rw [← UInt8.toNat_inj, hC]; rfl
      have cD : (isD c = true) = (48 ≤ C ∧ C ≤ 57) := by rw [← hC]; exact propext (isD_nat c)
      simp only [c46, cD] at hs
      clear c46 cD hC hc
      by_cases h1 : C = 46 ∧ p = false
      · obtain ⟨rfl, rfl⟩ := h1
        rw [if_pos ⟨rfl, rfl⟩] at hs
        go_wp2
        exact ⟨⟨i + 1, b, true, i, by omega, by omega, rfl, rfl, rfl, rfl, hs, T1⟩, by simp [intOf]; omega⟩
      · rw [if_neg h1] at hs
        by_cases h2 : 48 ≤ C ∧ C ≤ 57
        · rw [if_pos h2] at hs
          have q1 : ¬ ((C : Int) = 46) := by omega
          have q1' : ((C : Int) == 46) = false := by simpa using q1
          have q2 : (48 : Int) ≤ (C : Int) := by omega
          have q3 : (C : Int) ≤ 57 := by omega
          cases p with
          | false =>
            go_wp2
            exact ⟨⟨i + 1, b, false, f, by omega, by omega, rfl, rfl, rfl, rfl, hs, T1⟩, by simp [intOf]; omega⟩
          | true =>
            go_wp2
            exact ⟨⟨i + 1, b + 1, true, f, by omega, by omega, rfl, rfl, rfl, rfl, hs, T1⟩, by simp [intOf]; omega⟩
        · rw [if_neg h2] at hs
          have PN := plainR_no (neg := true) hs.symm
          clear hs
          have hp : p = true ∨ (p = false ∧ ((C : Int) == 46) = false) := by
            cases p
            · refine Or.inr ⟨rfl, ?_⟩
              have : ¬ C = 46 := fun e => h1 ⟨e, rfl⟩
              simpa using (show ¬ (C : Int) = 46 by omega)
            · exact Or.inl rfl
          have h3 : (¬ (48 : Int) ≤ (C : Int)) ∨ ((48 : Int) ≤ (C : Int) ∧ ¬ (C : Int) ≤ 57) := by omega
          clear h1 h2
          rcases hp with rfl | ⟨rfl, hp⟩
          all_goals rcases h3 with h3 | ⟨h3, h4⟩
          all_goals
            go_wp2
            all_goals exact ret_row_tmp (b := w.heap.size) (C := rzero) (v := .bool false) rfl rtRef rfl rfl (by go_simp; rfl) rfl ⟨by first | rfl | rw [PN], T1.below.putRow (by omega) _ _⟩
    · have hin : i = r.length := by omega
      subst hin
      rw [List.drop_length, scan] at hs
      obtain ⟨hd, hp, hb, hf0⟩ := scan_yes hs.symm
      clear hs
      have ML := Lib.hid (fun w => made_list true (allOf r) b w hd (by have := all_length r; omega))
      have hal := all_length r
      cases hE : (allOf r).isEmpty with
      | true =>
        have PN := plainR_nil (neg := true) (List.isEmpty_iff.1 hE)
        cases p with
        | false =>
          have hJ := cut_nopoint r hp.symm
          change allOf r = r at hJ
          rw [hJ] at hE
          clear hd ML hJ hp hb hf0
          go_wp2
          exact ret_row_tmp (b := w.heap.size) (C := rzero) (v := .bool false) rfl rtRef rfl rfl (by go_simp; rfl) rfl ⟨by first | rfl | rw [PN], T1.below.putRow (by omega) _ _⟩
        | true =>
          obtain ⟨hJ, hJ2⟩ := cut_join r hp.symm
          change _ = allOf r at hJ
          have hf := hf0 rfl
          clear hf0
          obtain ⟨k, hk⟩ : ∃ k, (cutDot r).1.length = k := ⟨_, rfl⟩
          rw [hk] at hJ hJ2 hf
          subst hf
          have wk : IntKind.i64.wrap ((k : Int) + 1) = (k : Int) + 1 := IntWalk.i64_in _ (by omega)
          have k1 : (k : Int) ≤ (r.length : Int) := by omega
          have k2 : (k : Int) + 1 ≤ (r.length : Int) := by omega
          have k3 : k ≤ r.length := by omega
          have k4 : k + 1 ≤ r.length := by omega
          have k5 : min k r.length + (r.length - (k + 1)) ≤ 9223372036854775807 := by omega
          have k6 : List.take (r.length - (k + 1)) (List.drop (k + 1) r) = List.drop (k + 1) r := List.take_of_length_le (by simp)
          have k7 : k + (r.length - (k + 1)) ≤ 9223372036854775807 := by omega
          clear hd ML hp hb hk
          go_wp2
          go_region
          go_wp2
          exact ret_row_tmp (b := w.heap.size) (C := rzero) (v := .bool false) rfl rtRef rfl rfl (by go_simp; rfl) rfl ⟨by first | rfl | rw [PN], T1.drew.below.putRow (by omega) _ _⟩
      | false =>
        have hne : allOf r ≠ [] := fun e => by rw [e] at hE; cases hE
        have PY : plainR true r = #[.agg (rcells (sgn true (valD (allOf r))) (valD (allOf r)) b), .bool true] := by
          unfold plainR
          rw [if_pos ⟨hd, hne⟩, ← hb]
        cases p with
        | false =>
          have hJ := cut_nopoint r hp.symm
          change allOf r = r at hJ
          rw [hJ] at hE ML PY
          clear hd hJ hp hb hf0
          go_wp2_with (go_at_call 42; refine (ML.out _).mono ?_; rintro e w2 ⟨rfl, hb2⟩; have T2 := T1.kept hb2; have r2 : rowOf _ (w.heap.size) = _ := T2.row 0 _ rfl; have f2 : freeOf _ (w.heap.size) = _ := T2.fr 0 rfl)
          exact ret_row_tmp (b := w.heap.size) (C := rcells (sgn true (valD r)) (valD r) b) (v := .bool true) rfl rtRef rfl rfl (by go_simp) rfl ⟨by first | rfl | rw [PY], T2.below.putRow (by omega) _ _⟩
        | true =>
          obtain ⟨hJ, hJ2⟩ := cut_join r hp.symm
          change _ = allOf r at hJ
          have hf := hf0 rfl
          clear hf0
          obtain ⟨k, hk⟩ : ∃ k, (cutDot r).1.length = k := ⟨_, rfl⟩
          rw [hk] at hJ hJ2 hf
          subst hf
          have wk : IntKind.i64.wrap ((k : Int) + 1) = (k : Int) + 1 := IntWalk.i64_in _ (by omega)
          have k1 : (k : Int) ≤ (r.length : Int) := by omega
          have k2 : (k : Int) + 1 ≤ (r.length : Int) := by omega
          have k3 : k ≤ r.length := by omega
          have k4 : k + 1 ≤ r.length := by omega
          have k5 : min k r.length + (r.length - (k + 1)) ≤ 9223372036854775807 := by omega
          have k6 : List.take (r.length - (k + 1)) (List.drop (k + 1) r) = List.drop (k + 1) r := List.take_of_length_le (by simp)
          have k7 : k + (r.length - (k + 1)) ≤ 9223372036854775807 := by omega
          clear hd hp hb hk
          go_wp2
          go_region
          go_wp2_with (go_at_call 42; refine (ML.out _).mono ?_; rintro e w2 ⟨rfl, hb2⟩; have T2 := T1.drew.kept hb2; have r2 : rowOf _ (w.heap.size) = _ := T2.row 0 _ rfl; have f2 : freeOf _ (w.heap.size) = _ := T2.fr 0 rfl)
          exact ret_row_tmp (b := w.heap.size) (C := rcells (sgn true (valD (allOf r))) (valD (allOf r)) b) (v := .bool true) rfl rtRef rfl rfl (by go_simp) rfl ⟨by first | rfl | rw [PY], T2.below.putRow (by omega) _ _⟩
set_option maxRecDepth 100000 in
set_option maxHeartbeats 4000000 in
theorem plain_empty (w : World) :
    Calls Tryz.prog 33 #[.string ⟨([] : List UInt8).toArray⟩, .bool false] w fun e w' => e = .returned (.tuple (plainR false [])) ∧ Below w.heap.size w w' := by
  have PN : plainR false [] = #[.agg rzero, .bool false] := plainR_nil rfl
  rw [PN]
  have T0 := (Blk.nil w).lay rfl rzero 48
  go_enter Tryz.func33, Tryz.ntmps33
  go_wp2
  go_loopw [7, 8, 9, 35] (fun s7 s8 s9 s35 W => s7 = .int .i64 0 ∧ s8 = .bool false ∧ s9 = .int .i64 (-1) ∧ s35 = .int .i64 0 ∧ Blk w W [rzero]) (fun _ _ _ _ _ => 0)
  case atStart => exact ⟨rfl, rfl, rfl, rfl, T0⟩
  case round =>
    obtain ⟨rfl, rfl, rfl, rfl, T1⟩ := hrel
    have r0 : rowOf _ (w.heap.size) = _ := T1.row 0 _ rfl
    have f0 : freeOf _ (w.heap.size) = _ := T1.fr 0 rfl
    go_wp2
    exact ret_row_tmp (b := w.heap.size) (C := rzero) (v := .bool false) rfl rtRef rfl rfl (by go_simp; rfl) rfl ⟨rfl, T1.below.putRow (by omega) _ _⟩
set_option maxRecDepth 100000 in
set_option maxHeartbeats 4000000 in
theorem plain_other (r : List UInt8) (w : World) (hl : r.length ≤ 500) (h0 : 0 < r.length) (hne : r[0] ≠ 45) :
    Calls Tryz.prog 33 #[.string ⟨(r).toArray⟩, .bool false] w fun e w' => e = .returned (.tuple (plainR false r)) ∧ Below w.heap.size w w' := by
  have h0' : (0 : Int) < (r.length : Int) := by omega
  have hsz : 0 < (ByteArray.mk r.toArray).size := by simpa [ByteArray.size] using h0
  have g45 : ((((ByteArray.mk r.toArray)[0]'hsz).toNat : Int) == 45) = false := by
    have e : (ByteArray.mk r.toArray)[0]'hsz = r[0] := rfl
    rw [e, beq_eq_false_iff_ne]
    intro h
    refine hne ?_
    rw [← UInt8.toNat_inj]
    have : (45 : UInt8).toNat = 45 := rfl
    omega
  clear hne
  have T0 := (Blk.nil w).lay rfl rzero 48
  go_enter Tryz.func33, Tryz.ntmps33
  go_wp2
  go_loopw [7, 8, 9, 35] (fun s7 s8 s9 s35 W => ∃ (i b : Nat) (p : Bool) (f : Int), i ≤ r.length ∧ b ≤ i ∧ s7 = .int .i64 (b : Int) ∧ s8 = .bool p ∧ s9 = .int .i64 f ∧ s35 = .int .i64 (i : Int) ∧ scan (r.drop i) i p f b = scan r 0 false (-1) 0 ∧ Blk w W [rzero]) (fun _ _ _ s35 _ => r.length - (intOf s35).toNat)
  case atStart => exact ⟨0, 0, false, -1, by omega, by omega, rfl, rfl, rfl, rfl, rfl, T0⟩
  case round =>
    obtain ⟨i, b, p, f, hi, hbi, rfl, rfl, rfl, rfl, hs, T1⟩ := hrel
    have r0 : rowOf _ (w.heap.size) = _ := T1.row 0 _ rfl
    have f0 : freeOf _ (w.heap.size) = _ := T1.fr 0 rfl
    by_cases hlt : i < r.length
    · have ht : (i : Int) < (r.length : Int) := by omega
      rw [List.drop_eq_getElem_cons hlt, scan] at hs
      obtain ⟨c, hc⟩ : ∃ c, r[i] = c := ⟨_, rfl⟩
      rw [hc] at hs
      obtain ⟨C, hC⟩ : ∃ C : Nat, c.toNat = C := ⟨_, rfl⟩
      have hg : ((ByteArray.mk r.toArray)[i]'(by simpa [ByteArray.size] using hlt)).toNat = C := by
        rw [← hC, ← hc]; rfl
      have wi : IntKind.i64.wrap ((i : Int) + 1) = (i : Int) + 1 := IntWalk.i64_in _ (by omega)
      have wb : IntKind.i64.wrap ((b : Int) + 1) = (b : Int) + 1 := IntWalk.i64_in _ (by omega)
      have c46 : (c = 46) = (C = 46) := by rw [← UInt8.toNat_inj, hC]; rfl
      have cD : (isD c = true) = (48 ≤ C ∧ C ≤ 57) := by rw [← hC]; exact propext (isD_nat c)
      simp only [c46, cD] at hs
      clear c46 cD hC hc
      by_cases h1 : C = 46 ∧ p = false
      · obtain ⟨rfl, rfl⟩ := h1
        rw [if_pos ⟨rfl, rfl⟩] at hs
        go_wp2
        exact ⟨⟨i + 1, b, true, i, by omega, by omega, rfl, rfl, rfl, rfl, hs, T1⟩, by simp [intOf]; omega⟩
      · rw [if_neg h1] at hs
        by_cases h2 : 48 ≤ C ∧ C ≤ 57
        · rw [if_pos h2] at hs
          have q1 : ¬ ((C : Int) = 46) := by omega
          have q1' : ((C : Int) == 46) = false := by simpa using q1
          have q2 : (48 : Int) ≤ (C : Int) := by omega
          have q3 : (C : Int) ≤ 57 := by omega
          cases p with
          | false =>
            go_wp2
            exact ⟨⟨i + 1, b, false, f, by omega, by omega, rfl, rfl, rfl, rfl, hs, T1⟩, by simp [intOf]; omega⟩
          | true =>
            go_wp2
            exact ⟨⟨i + 1, b + 1, true, f, by omega, by omega, rfl, rfl, rfl, rfl, hs, T1⟩, by simp [intOf]; omega⟩
        · rw [if_neg h2] at hs
          have PN := plainR_no (neg := false) hs.symm
          clear hs
          have hp : p = true ∨ (p = false ∧ ((C : Int) == 46) = false) := by
            cases p
            · refine Or.inr ⟨rfl, ?_⟩
              have : ¬ C = 46 := fun e => h1 ⟨e, rfl⟩
              simpa using (show ¬ (C : Int) = 46 by omega)
            · exact Or.inl rfl
          have h3 : (¬ (48 : Int) ≤ (C : Int)) ∨ ((48 : Int) ≤ (C : Int) ∧ ¬ (C : Int) ≤ 57) := by omega
          clear h1 h2
          rcases hp with rfl | ⟨rfl, hp⟩
          all_goals rcases h3 with h3 | ⟨h3, h4⟩
          all_goals
            go_wp2
            all_goals exact ret_row_tmp (b := w.heap.size) (C := rzero) (v := .bool false) rfl rtRef rfl rfl (by go_simp; rfl) rfl ⟨by first | rfl | rw [PN], T1.below.putRow (by omega) _ _⟩
    · have hin : i = r.length := by omega
      subst hin
      rw [List.drop_length, scan] at hs
      obtain ⟨hd, hp, hb, hf0⟩ := scan_yes hs.symm
      clear hs
      have ML := Lib.hid (fun w => made_list false (allOf r) b w hd (by have := all_length r; omega))
      have hal := all_length r
      cases hE : (allOf r).isEmpty with
      | true =>
        have PN := plainR_nil (neg := false) (List.isEmpty_iff.1 hE)
        cases p with
        | false =>
          have hJ := cut_nopoint r hp.symm
          change allOf r = r at hJ
          rw [hJ] at hE
          clear hd ML hJ hp hb hf0
          go_wp2
          exact ret_row_tmp (b := w.heap.size) (C := rzero) (v := .bool false) rfl rtRef rfl rfl (by go_simp; rfl) rfl ⟨by first | rfl | rw [PN], T1.below.putRow (by omega) _ _⟩
        | true =>
          obtain ⟨hJ, hJ2⟩ := cut_join r hp.symm
          change _ = allOf r at hJ
          have hf := hf0 rfl
          clear hf0
          obtain ⟨k, hk⟩ : ∃ k, (cutDot r).1.length = k := ⟨_, rfl⟩
          rw [hk] at hJ hJ2 hf
          subst hf
          have wk : IntKind.i64.wrap ((k : Int) + 1) = (k : Int) + 1 := IntWalk.i64_in _ (by omega)
          have k1 : (k : Int) ≤ (r.length : Int) := by omega
          have k2 : (k : Int) + 1 ≤ (r.length : Int) := by omega
          have k3 : k ≤ r.length := by omega
          have k4 : k + 1 ≤ r.length := by omega
          have k5 : min k r.length + (r.length - (k + 1)) ≤ 9223372036854775807 := by omega
          have k6 : List.take (r.length - (k + 1)) (List.drop (k + 1) r) = List.drop (k + 1) r := List.take_of_length_le (by simp)
          have k7 : k + (r.length - (k + 1)) ≤ 9223372036854775807 := by omega
          clear hd ML hp hb hk
          go_wp2
          go_region
          go_wp2
          exact ret_row_tmp (b := w.heap.size) (C := rzero) (v := .bool false) rfl rtRef rfl rfl (by go_simp; rfl) rfl ⟨by first | rfl | rw [PN], T1.drew.below.putRow (by omega) _ _⟩
      | false =>
        have hne : allOf r ≠ [] := fun e => by rw [e] at hE; cases hE
        have PY : plainR false r = #[.agg (rcells (sgn false (valD (allOf r))) (valD (allOf r)) b), .bool true] := by
          unfold plainR
          rw [if_pos ⟨hd, hne⟩, ← hb]
        cases p with
        | false =>
          have hJ := cut_nopoint r hp.symm
          change allOf r = r at hJ
          rw [hJ] at hE ML PY
          clear hd hJ hp hb hf0
          go_wp2_with (go_at_call 42; refine (ML.out _).mono ?_; rintro e w2 ⟨rfl, hb2⟩; have T2 := T1.kept hb2; have r2 : rowOf _ (w.heap.size) = _ := T2.row 0 _ rfl; have f2 : freeOf _ (w.heap.size) = _ := T2.fr 0 rfl)
          exact ret_row_tmp (b := w.heap.size) (C := rcells (sgn false (valD r)) (valD r) b) (v := .bool true) rfl rtRef rfl rfl (by go_simp) rfl ⟨by first | rfl | rw [PY], T2.below.putRow (by omega) _ _⟩
        | true =>
          obtain ⟨hJ, hJ2⟩ := cut_join r hp.symm
          change _ = allOf r at hJ
          have hf := hf0 rfl
          clear hf0
          obtain ⟨k, hk⟩ : ∃ k, (cutDot r).1.length = k := ⟨_, rfl⟩
          rw [hk] at hJ hJ2 hf
          subst hf
          have wk : IntKind.i64.wrap ((k : Int) + 1) = (k : Int) + 1 := IntWalk.i64_in _ (by omega)
          have k1 : (k : Int) ≤ (r.length : Int) := by omega
          have k2 : (k : Int) + 1 ≤ (r.length : Int) := by omega
          have k3 : k ≤ r.length := by omega
          have k4 : k + 1 ≤ r.length := by omega
          have k5 : min k r.length + (r.length - (k + 1)) ≤ 9223372036854775807 := by omega
          have k6 : List.take (r.length - (k + 1)) (List.drop (k + 1) r) = List.drop (k + 1) r := List.take_of_length_le (by simp)
          have k7 : k + (r.length - (k + 1)) ≤ 9223372036854775807 := by omega
          clear hd hp hb hk
          go_wp2
          go_region
          go_wp2_with (go_at_call 42; refine (ML.out _).mono ?_; rintro e w2 ⟨rfl, hb2⟩; have T2 := T1.drew.kept hb2; have r2 : rowOf _ (w.heap.size) = _ := T2.row 0 _ rfl; have f2 : freeOf _ (w.heap.size) = _ := T2.fr 0 rfl)
          exact ret_row_tmp (b := w.heap.size) (C := rcells (sgn false (valD (allOf r))) (valD (allOf r)) b) (v := .bool true) rfl rtRef rfl rfl (by go_simp) rfl ⟨by first | rfl | rw [PY], T2.below.putRow (by omega) _ _⟩
theorem plain_any (l : List UInt8) (w : World) (hl : l.length ≤ 500) :
    Calls Tryz.prog 33 #[.string ⟨l.toArray⟩, .bool false] w fun e w' => e = .returned (.tuple (plainR (negOf l) (restOf l))) ∧ Below w.heap.size w w' := by
  cases l with
  | nil => exact plain_empty w
  | cons c q =>
    by_cases h : c = 45
    · subst h
      have e1 : negOf (45 :: q) = true := by unfold negOf Lib.hasPrefix; simp [List.isPrefixOf]
      have e2 : restOf (45 :: q) = q := by unfold restOf Lib.trimPrefix Lib.hasPrefix; simp [List.isPrefixOf]
      rw [e1, e2]
      exact plain_minus q w (by simp at hl; omega)
    · have e1 : negOf (c :: q) = false := by unfold negOf Lib.hasPrefix; simp [List.isPrefixOf]; exact fun e => h e.symm
      have e2 : restOf (c :: q) = c :: q := by unfold restOf Lib.trimPrefix Lib.hasPrefix; simp [List.isPrefixOf]; exact fun e => absurd e.symm h
      rw [e1, e2]
      exact plain_other (c :: q) w hl (by simp) h
end Go.Proofs.YtkcogoibaodbeaaGreatDoor
namespace Go.Proofs.YtkcogoibaodbeaaGreatDoor
open Go.RowKit
attribute [local go_sem] ByteArray.mk_append_mk ByteArray.extract_mk
/-- What read answers. -/
def readR (l : List UInt8) : Array Value := if parseB l = true then #[.agg (rcells (negOf l) (uOf l) (partOf l).length), .bool true] else #[.agg rzero, .bool false]
theorem plainR_eq (l : List UInt8) : plainR (negOf l) (restOf l) = if (wholeOf l ++ partOf l).all isD = true ∧ wholeOf l ++ partOf l ≠ [] then #[.agg (rcells (sgn (negOf l) (uOf l)) (uOf l) (partOf l).length), .bool true] else #[.agg rzero, .bool false] := rfl
theorem rest_len (l : List UInt8) : (partOf l).length ≤ l.length := by
  have h1 := (cutDot_length (restOf l)).2
  have h2 : (restOf l).length ≤ l.length := by unfold restOf Lib.trimPrefix; split <;> simp
  unfold partOf; omega
@[go_sem] theorem rzero_one : oneCells rzero = true := by simp [oneCells, rzero, Value.oneCell']
@[go_sem] theorem splice_to_z (a b c : Value) : splice #[a, b, c] 0 rzero = rzero := rfl
@[go_sem] theorem splice_z3 (x y z : Value) : splice rzero 0 #[x, y, z] = #[x, y, z] := rfl
attribute [local irreducible] ds dd txt
set_option maxRecDepth 100000 in
set_option maxHeartbeats 4000000 in
theorem read_long (l : List UInt8) (w : World) (hl : l.length ≤ 500) (h : 40 < l.length) :
    Calls Tryz.prog 36 #[.string ⟨l.toArray⟩] w fun e w' => e = .returned (.tuple #[.agg rzero, .bool false]) ∧ Below w.heap.size w w' := by
  have t1 : (40 : Int) < (l.length : Int) := by omega
  have T0 := (Blk.nil w).lay rfl rzero 48
  go_enter Tryz.func36, Tryz.ntmps36
  go_wp2
  exact ret_row_tmp (b := w.heap.size) (C := rzero) (v := .bool false) rfl rtRef rfl rfl (by go_simp; rfl) rfl ⟨rfl, (Below.refl _ _).alloc (Nat.le_refl _) _⟩
set_option maxRecDepth 100000 in
set_option maxHeartbeats 4000000 in
theorem read_bad (l : List UInt8) (w : World) (h : l.length ≤ 40) (hp : plainR (negOf l) (restOf l) = #[.agg rzero, .bool false]) :
    Calls Tryz.prog 36 #[.string ⟨l.toArray⟩] w fun e w' => e = .returned (.tuple #[.agg rzero, .bool false]) ∧ Below w.heap.size w w' := by
  have t1 : ¬ (40 : Int) < (l.length : Int) := by omega
  have PL := Lib.hid (fun w => plain_any l w (by omega))
  rw [hp] at PL
  clear hp
  have T0 := (Blk.nil w).lay rfl rzero 48
  go_enter Tryz.func36, Tryz.ntmps36
  go_wp2_with (go_at_call 33; refine (PL.out _).mono ?_; rintro e w1 ⟨rfl, hb⟩; have T1 := T0.kept hb; have r1 : rowOf _ (w.heap.size) = _ := T1.row 0 _ rfl; have f1 : freeOf _ (w.heap.size) = _ := T1.fr 0 rfl; have l1 : w.heap.size < w1.heap.size := T1.lt 0 rfl; have n1 := Nat.ne_of_lt l1)
  exact ret_row_tmp (b := w.heap.size) (C := rzero) (v := .bool false) rfl rtRef rfl rfl (by go_simp; rfl) rfl ⟨rfl, (T1.below.putRow (Nat.le_refl _) _ _).alloc (by simp only [size_putRow]; omega) _⟩
set_option maxRecDepth 100000 in
set_option maxHeartbeats 4000000 in
theorem read_big (l : List UInt8) (U b : Nat) (w : World) (h : l.length ≤ 40) (hp : plainR (negOf l) (restOf l) = #[.agg (rcells (sgn (negOf l) U) U b), .bool true]) (hbig : 31 < b ∨ (b ≤ 31 ∧ 31 < dl U)) :
    Calls Tryz.prog 36 #[.string ⟨l.toArray⟩] w fun e w' => e = .returned (.tuple #[.agg rzero, .bool false]) ∧ Below w.heap.size w w' := by
  have t1 : ¬ (40 : Int) < (l.length : Int) := by omega
  have PL := Lib.hid (fun w => plain_any l w (by omega))
  rw [hp] at PL
  clear hp
  have T0 := (Blk.nil w).lay rfl rzero 48
  have zU := ds_length U
  rcases hbig with hbig | ⟨hbig, hbig2⟩
  · have q1 : (31 : Int) < (b : Int) := by omega
    go_enter Tryz.func36, Tryz.ntmps36
    go_wp2_with (go_at_call 33; refine (PL.out _).mono ?_; rintro e w1 ⟨rfl, hb⟩; have T1 := T0.kept hb; have X1 := (Blk.nil w1).lay rfl (rcells (sgn (negOf l) U) U b) 48; have T1' := T1.more (.cells (rcells (sgn (negOf l) U) U b) 48); have r1 : rowOf _ (w.heap.size) = _ := T1.row 0 _ rfl; have f1 : freeOf _ (w.heap.size) = _ := T1.fr 0 rfl; have l1 : w.heap.size < w1.heap.size := T1.lt 0 rfl; have n1 := Nat.ne_of_lt l1; have n2 := Ne.symm n1)
    exact ret_row_tmp (b := w.heap.size) (C := rzero) (v := .bool false) rfl rtRef rfl rfl (by go_simp; rfl) rfl ⟨rfl, (T1.below.putRow (Nat.le_refl _) _ _).alloc (by simp only [size_putRow]; omega) _⟩
  · have q1 : ¬ (31 : Int) < (b : Int) := by omega
    have q2 : (31 : Int) < (dl U : Int) := by omega
    go_enter Tryz.func36, Tryz.ntmps36
    go_wp2_with (go_at_call 33; refine (PL.out _).mono ?_; rintro e w1 ⟨rfl, hb⟩; have T1 := T0.kept hb; have X1 := (Blk.nil w1).lay rfl (rcells (sgn (negOf l) U) U b) 48; have T1' := T1.more (.cells (rcells (sgn (negOf l) U) U b) 48); have r1 : rowOf _ (w.heap.size) = _ := T1.row 0 _ rfl; have f1 : freeOf _ (w.heap.size) = _ := T1.fr 0 rfl; have l1 : w.heap.size < w1.heap.size := T1.lt 0 rfl; have n1 := Nat.ne_of_lt l1; have n2 := Ne.symm n1)
    exact ret_row_tmp (b := w.heap.size) (C := rzero) (v := .bool false) rfl rtRef rfl rfl (by go_simp; rfl) rfl ⟨rfl, (T1.below.putRow (Nat.le_refl _) _ _).alloc (by simp only [size_putRow]; omega) _⟩
set_option maxRecDepth 100000 in
set_option maxHeartbeats 4000000 in
theorem read_own (l : List UInt8) (U b : Nat) (w : World) (h : l.length ≤ 40) (hp : plainR (negOf l) (restOf l) = #[.agg (rcells (sgn (negOf l) U) U b), .bool true]) (hb : b ≤ 31) (hU : dl U ≤ 31) (hX : txt (negOf l) U b = l) :
    Calls Tryz.prog 36 #[.string ⟨l.toArray⟩] w fun e w' => e = .returned (.tuple #[.agg (rcells (sgn (negOf l) U) U b), .bool true]) ∧ Below w.heap.size w w' := by
  have t1 : ¬ (40 : Int) < (l.length : Int) := by omega
  have PL := Lib.hid (fun w => plain_any l w (by omega))
  rw [hp] at PL
  clear hp
  have T0 := (Blk.nil w).lay rfl rzero 48
  have zU := ds_length U
  have q1 : ¬ (31 : Int) < (b : Int) := by omega
  have q2 : ¬ (31 : Int) < (dl U : Int) := by omega
  have TX : ∀ w, _ := fun w => rtext_any (negOf l) U b w (by omega) (by omega)
  rw [hX] at TX
  have TX' := Lib.hid TX
  clear TX hX
  go_enter Tryz.func36, Tryz.ntmps36
  go_wp2_with (first
    | (go_at_call 33; refine (PL.out _).mono ?_; rintro e w1 ⟨rfl, hb⟩; have T1 := T0.kept hb; have X1 := (Blk.nil w1).lay rfl (rcells (sgn (negOf l) U) U b) 48; have T1' := T1.more (.cells (rcells (sgn (negOf l) U) U b) 48); have r1 : rowOf _ (w.heap.size) = _ := T1.row 0 _ rfl; have f1 : freeOf _ (w.heap.size) = _ := T1.fr 0 rfl; have l1 : w.heap.size < w1.heap.size := T1.lt 0 rfl; have n1 := Nat.ne_of_lt l1; have n2 := Ne.symm n1)
    | (go_at_call 34; refine (TX'.out _).mono ?_; rintro e w2 ⟨rfl, hb2⟩; have T2 := T1'.kept hb2; have X2 := X1.kept hb2; have r2 : rowOf _ (w.heap.size) = _ := T2.row 0 _ rfl; have f2 : freeOf _ (w.heap.size) = _ := T2.fr 0 rfl; have r3 : rowOf _ (w1.heap.size) = _ := X2.row 0 _ rfl))
  exact ret_row_tmp (b := w.heap.size) (C := rcells (sgn (negOf l) U) U b) (v := .bool true) rfl rtRef rfl rfl (by go_simp) rfl ⟨rfl, T2.below.putRow (by omega) _ _⟩
set_option maxRecDepth 100000 in
set_option maxHeartbeats 4000000 in
theorem read_other (l : List UInt8) (U b : Nat) (w : World) (h : l.length ≤ 40) (hp : plainR (negOf l) (restOf l) = #[.agg (rcells (sgn (negOf l) U) U b), .bool true]) (hb : b ≤ 31) (hU : dl U ≤ 31) (hX : (txt (negOf l) U b == l) = false) :
    Calls Tryz.prog 36 #[.string ⟨l.toArray⟩] w fun e w' => e = .returned (.tuple #[.agg rzero, .bool false]) ∧ Below w.heap.size w w' := by
  have t1 : ¬ (40 : Int) < (l.length : Int) := by omega
  have PL := Lib.hid (fun w => plain_any l w (by omega))
  rw [hp] at PL
  clear hp
  have T0 := (Blk.nil w).lay rfl rzero 48
  have zU := ds_length U
  have q1 : ¬ (31 : Int) < (b : Int) := by omega
  have q2 : ¬ (31 : Int) < (dl U : Int) := by omega
  have TX := Lib.hid (fun w => rtext_any (negOf l) U b w (by omega) (by omega))
  go_enter Tryz.func36, Tryz.ntmps36
  go_wp2_with (first
    | (go_at_call 33; refine (PL.out _).mono ?_; rintro e w1 ⟨rfl, hb⟩; have T1 := T0.kept hb; have X1 := (Blk.nil w1).lay rfl (rcells (sgn (negOf l) U) U b) 48; have T1' := T1.more (.cells (rcells (sgn (negOf l) U) U b) 48); have r1 : rowOf _ (w.heap.size) = _ := T1.row 0 _ rfl; have f1 : freeOf _ (w.heap.size) = _ := T1.fr 0 rfl; have l1 : w.heap.size < w1.heap.size := T1.lt 0 rfl; have n1 := Nat.ne_of_lt l1; have n2 := Ne.symm n1)
    | (go_at_call 34; refine (TX.out _).mono ?_; rintro e w2 ⟨rfl, hb2⟩; have T2 := T1'.kept hb2; have X2 := X1.kept hb2; have r2 : rowOf _ (w.heap.size) = _ := T2.row 0 _ rfl; have f2 : freeOf _ (w.heap.size) = _ := T2.fr 0 rfl; have r3 : rowOf _ (w1.heap.size) = _ := X2.row 0 _ rfl))
  exact ret_row_tmp (b := w.heap.size) (C := rzero) (v := .bool false) rfl rtRef rfl rfl (by go_simp; rfl) rfl ⟨rfl, T2.below.putRow (by omega) _ _⟩
theorem read_all (l : List UInt8) (w : World) (hl : l.length ≤ 500) :
    Calls Tryz.prog 36 #[.string ⟨l.toArray⟩] w fun e w' => e = .returned (.tuple (readR l)) ∧ Below w.heap.size w w' := by
  unfold readR
  rw [← readB_eq]
  by_cases h0 : l.length ≤ 40
  · have hpe := plainR_eq l
    by_cases h1 : (wholeOf l ++ partOf l).all isD = true ∧ wholeOf l ++ partOf l ≠ []
    · rw [if_pos h1] at hpe
      have h1' : (!(wholeOf l ++ partOf l).isEmpty) = true := by
        cases hh : wholeOf l ++ partOf l with
        | nil => exact absurd hh h1.2
        | cons _ _ => rfl
      by_cases h2 : (partOf l).length ≤ 31
      · by_cases h3 : dl (uOf l) ≤ 31
        · cases h4 : txt (negOf l) (uOf l) (partOf l).length == l with
          | true =>
            have e : readB l = true := by unfold readB; rw [h4, h1', h1.1]; simp [h0, h2, h3]
            rw [if_pos e]
            have ht : txt (negOf l) (uOf l) (partOf l).length = l := by simpa using h4
            have g := (parseB_good (by rw [← readB_eq]; exact e : parseB l = true)).1
            have hs : sgn (negOf l) (uOf l) = negOf l := by
              unfold sgn
              cases hn : negOf l with
              | false => rfl
              | true => have := g.sign hn; simp [this]
            have := read_own l _ _ w h0 hpe h2 h3 ht
            rw [hs] at this
            exact this
          | false =>
            have e : ¬ readB l = true := by unfold readB; rw [h4]; simp
            rw [if_neg e]
            exact read_other l _ _ w h0 hpe h2 h3 h4
        · have e : ¬ readB l = true := by unfold readB; simp [h3]
          rw [if_neg e]
          exact read_big l _ _ w h0 hpe (Or.inr ⟨h2, by omega⟩)
      · have e : ¬ readB l = true := by unfold readB; simp [h2]
        rw [if_neg e]
        exact read_big l _ _ w h0 hpe (Or.inl (by omega))
    · rw [if_neg h1] at hpe
      have e : ¬ readB l = true := by
        unfold readB
        intro hh
        simp only [Bool.and_eq_true, decide_eq_true_eq, beq_iff_eq] at hh
        refine h1 ⟨hh.1.1.1.1.2, fun e => ?_⟩
        rw [e] at hh
        exact absurd hh.1.1.1.2 (by decide)
      rw [if_neg e]
      exact read_bad l w h0 hpe
  · have e : ¬ readB l = true := by unfold readB; simp [h0]
    rw [if_neg e]
    exact read_long l w hl (by omega)
/-- The end of a function whose first two results are such values, the third a slot. -/
theorem ret_row2_tmp {P : Program} {fn : Func} {R : Ending → World → Prop} {p t n p' t' n' q : Nat} (hr : fn.results = #[.cell p t, .cell p' t', .tmp q]) (h : RowTy P t n) (h' : RowTy P t' n') {tmps : Array Value} {w : World} {b b' : Nat} {C C' : Array Value} {v : Value}
    (hp : tmps.getD p undef = .pointer (some ⟨b, 0, none⟩)) (hp2 : tmps.getD p' undef = .pointer (some ⟨b', 0, none⟩)) (hq : tmps.getD q undef = v) (hC : rowOf w b = C) (hC' : rowOf w b' = C') (hn : C.size = n) (hn' : C'.size = n') (hR : R (.returned (.tuple #[.agg C, .agg C', v])) w) :
    bodyPost P fn R .ret { tmps := tmps, defers := [] } w := by
  refine bodyPost_ret (v := .tuple #[.agg C, .agg C', v]) ?_ rfl hR
  have hp' : tmps[p]?.getD undef = .pointer (some ⟨b, 0, none⟩) := by simpa using hp
  have hp2' : tmps[p']?.getD undef = .pointer (some ⟨b', 0, none⟩) := by simpa using hp2
  have hq' : tmps[q]?.getD undef = v := by simpa using hq
  have hl := loadVar_run h w b 0 (by rw [hC, hn]; omega)
  have hl' := loadVar_run h' w b' 0 (by rw [hC', hn']; omega)
  rw [hC, Array.extract_eq_self_of_le (by omega)] at hl
  rw [hC', Array.extract_eq_self_of_le (by omega)] at hl'
  simp [results, hr, hp', hp2', hq', asAddr, hl, hl']
end Go.Proofs.YtkcogoibaodbeaaGreatDoor
