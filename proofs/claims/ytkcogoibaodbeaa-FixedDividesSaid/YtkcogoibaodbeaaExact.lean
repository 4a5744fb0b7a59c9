/- FixedExact answers true. -/
import Derived.Test.YtkcogoibaodbeaaExactP
set_option linter.unusedVariables false
set_option linter.unusedSimpArgs false
namespace Go.Proofs.Ytkcogoibaodbeaa
open Go.RowKit
attribute [local irreducible] txt
theorem sv_not (n : Bool) (u : Nat) : sv (!n) u = - sv n u := by unfold sv; rcases n <;> simp
theorem of_says (M s : Int) (hM : M.natAbs < 10 ^ 10) (h0 : 0 ≤ s) (h31 : s ≤ 31) : OfSays M s (txt (decide (M < 0)) M.natAbs s.toNat) 0 := by
  intro w
  obtain ⟨S, rfl⟩ : ∃ S : Nat, s = (S : Int) := ⟨s.toNat, by omega⟩
  rw [Int.toNat_natCast]
  by_cases h : M < 0
  · obtain ⟨N, rfl⟩ : ∃ N : Nat, M = -(N : Int) := ⟨M.natAbs, by omega⟩
    have hp := of_neg N S w (by omega) (by omega) (by omega)
    rw [decide_eq_true h, show (-(N : Int)).natAbs = N by omega]
    exact hp
  · obtain ⟨N, rfl⟩ : ∃ N : Nat, M = (N : Int) := ⟨M.natAbs, by omega⟩
    have hp := of_pos N S w (by omega) (by omega)
    rw [decide_eq_false h, show ((N : Int)).natAbs = N by omega]
    exact hp
theorem of_says_bad (M s : Int) (h : s < 0 ∨ 31 < s) : OfSays M s [] 7 := fun w => of_bad M s w h
theorem of_some (M s : Int) (hM : M.natAbs < 10 ^ 10) : ∃ l c, OfSays M s l c := by
  by_cases h : s < 0 ∨ 31 < s
  · exact ⟨_, _, of_says_bad M s h⟩
  · exact ⟨_, _, of_says M s hM (by omega) (by omega)⟩
theorem exact_two (m n s t : Int) (na nb : Bool) (A B S T : Nat) (w : World) (hs : s ≤ 10) (ht : t ≤ 10) (hS : S ≤ 10) (hT : T ≤ 10) (hA : A < 10 ^ 10) (hB : B < 10 ^ 10) (ga : Good na A S) (gb : Good nb B T)
    (h1 : OfSays (m.tmod 10000000000) s (txt na A S) 0) (h2 : OfSays (n.tmod 10000000000) t (txt nb B T) 0) :
    Calls Try.prog 6 #[.int .i64 m, .int .i64 n, .int .i64 s, .int .i64 t] w fun e w' => e = .returned (.bool true) ∧ Below w.heap.size w w' := by
  obtain ⟨X, hX⟩ : ∃ X, max S T = X := ⟨_, rfl⟩
  have hX' : max T S = X := by omega
  have hX10 : X ≤ 10 := by omega
  have hXT : max X T = X := by omega
  have hXS : max X S = X := by omega
  have hA' := scU_mul (u := A) (s := S) (t := X) (by omega) hX10 hA
  have hB' := scU_mul (u := B) (s := T) (t := X) (by omega) hX10 hB
  have big : (2 : Nat) * (2 * 10 ^ 20) < 10 ^ 31 := by decide
  obtain ⟨P, hP⟩ : ∃ P, plusN na (scU A S X) nb (scU B T X) = P := ⟨_, rfl⟩
  have sP : sv P.1 P.2 = sv na (scU A S X) + sv nb (scU B T X) := by rw [← hP]; exact plusN_sv _ _ _ _
  have bP : P.2 < 2 * 10 ^ 20 := by rw [← hP]; exact plusN_lt _ _ hA' hB'
  have gP := good_sgn P.1 (u := P.2) (s := X) (dl31 (by omega)) (by omega)
  obtain ⟨Q, hQ⟩ : ∃ Q, plusN (sgn P.1 P.2) P.2 (!nb) (scU B T X) = Q := ⟨_, rfl⟩
  have sQ : sv Q.1 Q.2 = sv na (scU A S X) := by
    rw [← hQ, plusN_sv, sv_sgn, sP, sv_not]; omega
  have bQ : Q.2 < 2 * (2 * 10 ^ 20) := by rw [← hQ]; exact plusN_lt _ _ bP (by omega)
  have gQ := good_sgn Q.1 (u := Q.2) (s := X) (dl31 (by omega)) (by omega)
  have hAB : A * B < 10 ^ 31 := Nat.lt_of_lt_of_le (Nat.mul_lt_mul'' hA hB) (by decide)
  refine exact_good m n s t (txt na A S) (txt nb B T) (txt P.1 P.2 X) (txt Q.1 Q.2 X) (txt (!(na == nb)) (A * B) (S + T)) w hs ht h1 h2 ?_ ?_ ?_ ?_ ?_ ?_
  · intro w
    have h := add_yes na A S nb B T w ga gb
    unfold numPlus at h
    rw [hX, hP, fitted_id _ (dl31 (by omega)) (by omega)] at h
    exact h
  · intro w
    have h := add_yes nb B T na A S w gb ga
    unfold numPlus at h
    have sP' : sv (plusN nb (scU B T X) na (scU A S X)).1 (plusN nb (scU B T X) na (scU A S X)).2 = sv P.1 P.2 := by rw [plusN_sv, sP]; omega
    have bP' : (plusN nb (scU B T X) na (scU A S X)).2 < 2 * 10 ^ 20 := plusN_lt _ _ hB' hA'
    rw [hX', fitted_id _ (dl31 (by omega)) (by omega), txt_sv X sP'] at h
    exact h
  · intro w
    have h := sub_yes (sgn P.1 P.2) P.2 X nb B T w gP gb
    unfold numPlus at h
    rw [hXT, scU_self, hQ, fitted_id _ (dl31 (by omega)) (by omega), txt_sgn] at h
    exact h
  · intro w
    have h := compare_yes (sgn Q.1 Q.2) Q.2 X na A S w gQ ga
    unfold numPlus at h
    have z : (plusN (sgn Q.1 Q.2) Q.2 (!na) (scU A S X)).2 = 0 := sv_zero (n := (plusN (sgn Q.1 Q.2) Q.2 (!na) (scU A S X)).1) (by rw [plusN_sv, sv_sgn, sQ, sv_not]; omega)
    rw [hXS, scU_self, txt_sgn, z] at h
    exact h
  · intro w
    have h := mul_yes na A S nb B T w ga gb
    rw [fitted_id _ (dl31 hAB) (by omega)] at h
    exact h
  · intro w
    have h := mul_yes nb B T na A S w gb ga
    rw [Nat.mul_comm B A, Nat.add_comm T S, show (nb == na) = (na == nb) by rcases na <;> rcases nb <;> rfl, fitted_id _ (dl31 hAB) (by omega)] at h
    exact h
theorem tmod_lt (m : Int) : (m.tmod 10000000000).natAbs < 10 ^ 10 := by
  have h := Int.natAbs_tmod m 10000000000
  rw [h]
  exact Nat.mod_lt _ (by decide)
theorem exact_any (m n s t : Int) (w : World) :
    Calls Try.prog 6 #[.int .i64 m, .int .i64 n, .int .i64 s, .int .i64 t] w fun e w' => e = .returned (.bool true) ∧ Below w.heap.size w w' := by
  have hM := tmod_lt m
  have hN := tmod_lt n
  by_cases h1 : s < 0 ∨ 31 < s
  · obtain ⟨l, c, h2⟩ := of_some (n.tmod 10000000000) t hN
    exact exact_bad1 m n s t [] l c w (of_says_bad _ _ h1) h2
  · have o1 := of_says _ s hM (by omega) (by omega)
    by_cases h2 : t < 0 ∨ 31 < t
    · exact exact_bad2 m n s t _ [] w o1 (of_says_bad _ _ h2)
    · have o2 := of_says _ t hN (by omega) (by omega)
      by_cases h3 : 10 < s
      · exact exact_bad3 m n s t _ _ w o1 o2 h3
      · by_cases h4 : 10 < t
        · exact exact_bad4 m n s t _ _ w o1 o2 (by omega) h4
        · have hle : (10 : Nat) ^ 10 ≤ 10 ^ 31 := by decide
          refine exact_two m n s t _ _ _ _ s.toNat t.toNat w (by omega) (by omega) (by omega) (by omega) hM hN ⟨dl31 (by omega), by omega, fun e => ?_⟩ ⟨dl31 (by omega), by omega, fun e => ?_⟩ o1 o2
          · simp only [decide_eq_true_eq] at e; omega
          · simp only [decide_eq_true_eq] at e; omega
end Go.Proofs.Ytkcogoibaodbeaa
