/- FixedDivides answers true. -/
import Derived.Test.YtkcogoibaodbeaaDividesW
import Derived.Test.YtkcogoibaodbeaaExact
set_option linter.unusedVariables false
set_option linter.unusedSimpArgs false
namespace Go.Proofs.Ytkcogoibaodbeaa
open Go.RowKit
attribute [local irreducible] txt
theorem sv_quot (na nb : Bool) (q z : Nat) : sv (!(sgn (!(na == nb)) q == nb)) (q * z) = sv na (q * z) := by
  by_cases h : q = 0
  · subst h; simp [sv]
  · have e : sgn (!(na == nb)) q = !(na == nb) := by simp [sgn, h]
    rw [e]
    rcases na <;> rcases nb <;> rfl
theorem sv_add_same (na : Bool) (u v : Nat) : sv na u + sv na v = sv na (u + v) := by unfold sv; rcases na <;> simp <;> omega
theorem cmpN_less {r y : Nat} (h : r < y) : cmpN (plusN false r true y).1 (plusN false r true y).2 = -1 := by
  have e : plusN false r true y = (true, y - r) := by unfold plusN; rw [if_neg (by decide), if_neg (by omega)]
  rw [e]
  unfold cmpN
  rw [if_neg (by dsimp only; omega)]
  rfl
theorem divides_two (m n s t : Int) (na nb : Bool) (A B S T : Nat) (w : World) (hs : s ≤ 10) (ht : t ≤ 10) (hS : S ≤ 10) (hT : T ≤ 10) (hA : A < 10 ^ 10) (hB : B < 10 ^ 10) (hB0 : B ≠ 0) (ga : Good na A S) (gb : Good nb B T)
    (hn : ¬ n.tmod 10000000000 = 0) (h1 : OfSays (m.tmod 10000000000) s (txt na A S) 0) (h2 : OfSays (n.tmod 10000000000) t (txt nb B T) 0) :
    Calls Try.prog 7 #[.int .i64 m, .int .i64 n, .int .i64 s, .int .i64 t] w fun e w' => e = .returned (.bool true) ∧ Below w.heap.size w w' := by
  obtain ⟨X, hX⟩ : ∃ X, max S T = X := ⟨_, rfl⟩
  have hX10 : X ≤ 10 := by omega
  have hXT : max X T = X := by omega
  have hTX : max (0 + T) X = X := by omega
  have hXS : max X S = X := by omega
  have hA' := scU_mul (u := A) (s := S) (t := X) (by omega) hX10 hA
  have hB' := scU_mul (u := B) (s := T) (t := X) (by omega) hX10 hB
  obtain ⟨x, hx⟩ : ∃ x, scU A S X = x := ⟨_, rfl⟩
  obtain ⟨y, hy⟩ : ∃ y, scU B T X = y := ⟨_, rfl⟩
  have hyB : y = B * 10 ^ (X - T) := by rw [← hy, scU_up (by omega)]
  have hy0 : 0 < y := by rw [hyB]; exact Nat.mul_pos (by omega) (Nat.pow_pos (by decide))
  rw [hx] at hA'
  rw [hy] at hB'
  obtain ⟨q, hq⟩ : ∃ q, x / y = q := ⟨_, rfl⟩
  obtain ⟨r, hr⟩ : ∃ r, x % y = r := ⟨_, rfl⟩
  have hry : r < y := by rw [← hr]; exact Nat.mod_lt _ hy0
  have hqx : q ≤ x := by rw [← hq]; exact Nat.div_le_self _ _
  have hxe : q * y + r = x := by rw [← hq, ← hr, Nat.mul_comm]; exact Nat.div_add_mod _ _
  have e20 : (10 : Nat) ^ 20 < 10 ^ 31 := by decide
  have e21 : (2 : Nat) * 10 ^ 20 < 10 ^ 31 := by decide
  have hqB : q * B < 10 ^ 31 := Nat.lt_of_lt_of_le (Nat.mul_lt_mul'' (Nat.lt_of_le_of_lt hqx hA') hB) (by decide)
  have gq := good_sgn (!(na == nb)) (u := q) (s := 0) (dl31 (by omega)) (by omega)
  have gr := good_sgn na (u := r) (s := X) (dl31 (by omega)) (by omega)
  obtain ⟨np, hnp⟩ : ∃ np, (!(sgn (!(na == nb)) q == nb)) = np := ⟨_, rfl⟩
  have gp := good_sgn np (u := q * B) (s := 0 + T) (dl31 hqB) (by omega)
  have hup : scU (q * B) (0 + T) X = q * y := by rw [scU_up (by omega), hyB, Nat.zero_add, Nat.mul_assoc]
  obtain ⟨P, hP⟩ : ∃ P, plusN (sgn np (q * B)) (q * y) (sgn na r) r = P := ⟨_, rfl⟩
  have sP : sv P.1 P.2 = sv na x := by
    rw [← hP, plusN_sv, sv_sgn na r, ← hxe, ← sv_add_same]
    congr 1
    have hs2 : sv (sgn np (q * B)) (q * y) = sv np (q * y) := by
      by_cases h0 : q * B = 0
      · have hq0 : q = 0 := by
          rcases Nat.mul_eq_zero.1 h0 with h | h
          · exact h
          · exact absurd h hB0
        subst hq0; simp [sv]
      · have : sgn np (q * B) = np := by unfold sgn; rcases np <;> simp_all
        rw [this]
    rw [hs2, ← hnp]
    exact sv_quot na nb q y
  have hqy : q * y < 10 ^ 20 := by omega
  have bP : P.2 < 2 * 10 ^ 20 := by rw [← hP]; exact plusN_lt _ _ hqy (by omega)
  have gP := good_sgn P.1 (u := P.2) (s := X) (dl31 (by omega)) (by omega)
  refine divides_good m n s t _ (txt na A S) (txt nb B T) (txt (!(na == nb)) q 0) (txt na r X) (txt np (q * B) (0 + T)) (txt P.1 P.2 X) (txt false r X) (txt false B T) w hs ht rfl hn h1 h2 ?_ ?_ ?_ ?_ ?_ ?_ ?_ ?_
  · intro w
    have h := div_yes na A S nb B T 0 w ga gb (by omega) hB0
    unfold divQ at h
    rw [hX, hx, hy, Nat.pow_zero, Nat.mul_one, hq, show wholeR (!(na == nb)) q 0 = (txt (!(na == nb)) q 0, 0) from if_pos (dl31 (by omega))] at h
    exact h
  · intro w
    have h := rem_yes na A S nb B T w ga gb hB0
    rw [hX, hx, hy, hr, show wholeR na r X = (txt na r X, 0) from if_pos (dl31 (by omega))] at h
    exact h
  · intro w
    have h := mul_yes (sgn (!(na == nb)) q) q 0 nb B T w gq gb
    rw [hnp, fitted_id _ (dl31 hqB) (by omega), txt_sgn] at h
    exact h
  · intro w
    have h := add_yes (sgn np (q * B)) (q * B) (0 + T) (sgn na r) r X w gp gr
    unfold numPlus at h
    rw [hTX, hup, scU_self, hP, fitted_id _ (dl31 (by omega)) (by omega), txt_sgn, txt_sgn] at h
    exact h
  · intro w
    have h := compare_yes (sgn P.1 P.2) P.2 X na A S w gP ga
    unfold numPlus at h
    have z : (plusN (sgn P.1 P.2) P.2 (!na) x).2 = 0 := sv_zero (n := (plusN (sgn P.1 P.2) P.2 (!na) x).1) (by rw [plusN_sv, sv_sgn, sP, sv_not]; omega)
    rw [hXS, scU_self, hx, txt_sgn, z] at h
    exact h
  · intro w
    have h := abs_yes (sgn na r) r X w gr
    rw [txt_sgn] at h
    exact h
  · intro w
    exact abs_yes nb B T w gb
  · intro w
    have h := compare_yes false r X false B T w ⟨dl31 (by omega), by omega, fun e => by cases e⟩ ⟨dl31 (by omega), by omega, fun e => by cases e⟩
    unfold numPlus at h
    rw [hXT, scU_self, hy, Bool.not_false, cmpN_less hry] at h
    exact h
theorem divides_any (m n s t : Int) (w : World) :
    Calls Try.prog 7 #[.int .i64 m, .int .i64 n, .int .i64 s, .int .i64 t] w fun e w' => e = .returned (.bool true) ∧ Below w.heap.size w w' := by
  have hM := tmod_lt m
  have hN := tmod_lt n
  by_cases h1 : s < 0 ∨ 31 < s
  · obtain ⟨l, c, h2⟩ := of_some (n.tmod 10000000000) t hN
    exact divides_bad1 m n s t [] l c w (of_says_bad _ _ h1) h2
  · have o1 := of_says _ s hM (by omega) (by omega)
    by_cases h2 : t < 0 ∨ 31 < t
    · exact divides_bad2 m n s t _ [] w o1 (of_says_bad _ _ h2)
    · have o2 := of_says _ t hN (by omega) (by omega)
      by_cases h3 : 10 < s
      · exact divides_bad3 m n s t _ _ w o1 o2 h3
      · by_cases h4 : 10 < t
        · exact divides_bad4 m n s t _ _ w o1 o2 (by omega) h4
        · have hle : (10 : Nat) ^ 10 ≤ 10 ^ 31 := by decide
          have ga : Good (decide (m.tmod 10000000000 < 0)) (m.tmod 10000000000).natAbs s.toNat := ⟨dl31 (by omega), by omega, fun e => by simp only [decide_eq_true_eq] at e; omega⟩
          have gb : Good (decide (n.tmod 10000000000 < 0)) (n.tmod 10000000000).natAbs t.toNat := ⟨dl31 (by omega), by omega, fun e => by simp only [decide_eq_true_eq] at e; omega⟩
          by_cases hz : n.tmod 10000000000 = 0
          · rw [hz] at o2 gb
            exact divides_zero m n s t _ _ w (by omega) (by omega) hz o1 o2 (fun w => div_zero _ _ _ _ _ 0 w ga gb (by omega)) (fun w => rem_zero _ _ _ _ _ w ga gb)
          · exact divides_two m n s t _ _ _ _ s.toNat t.toNat w (by omega) (by omega) (by omega) (by omega) hM hN (by omega) ga gb hz o1 o2
end Go.Proofs.Ytkcogoibaodbeaa
