/- What a decimal's text tells, and that it is told back. No program in sight. -/
import Derived.Test.YtkcogoibaodbeaaGreatDoorTxtPure
import Derived.Test.YtkcogoibaodbeaaGreatDoorDigPure
import Derived.Test.YtkcogoibaodbeaaGreatDoorCut
set_option linter.unusedVariables false
set_option linter.unusedSimpArgs false
namespace Go.Proofs.YtkcogoibaodbeaaGreatDoor
/-- A decimal as the program keeps it: at most 31 digits, a scale to 31, no sign at 0. -/
structure Good (neg : Bool) (u s : Nat) : Prop where
  u31 : dl u ≤ 31
  s31 : s ≤ 31
  sign : neg = true → u ≠ 0
/-- The digits of the places n - 1 to 0. -/
def dd (u : Nat) : Nat → List UInt8
  | 0 => []
  | n + 1 => chr (dg u n) :: dd u n
theorem dd_length (u n : Nat) : (dd u n).length = n := by
  induction n with
  | zero => rfl
  | succ n ih => simp [dd, ih]
theorem chr_nat {d : Nat} (h : d < 10) : (chr d).toNat = 48 + d := by
  unfold chr; rw [UInt8.toNat_ofNat']; omega
theorem isD_chr {d : Nat} (h : d < 10) : isD (chr d) = true := by
  unfold isD; rw [chr_nat h]; simp; omega
theorem dd_all (u n : Nat) : (dd u n).all isD = true := by
  induction n with
  | zero => rfl
  | succ n ih => rw [dd, List.all_cons, isD_chr (dg_lt u n), ih]; rfl
theorem dd_val (u n : Nat) : valD (dd u n) = u % 10 ^ n := by
  induction n with
  | zero => simp [dd, valD, Nat.mod_one]
  | succ n ih =>
    rw [dd, valD_cons, ih, dd_length, chr_nat (dg_lt u n), modp_succ, Nat.mul_comm (10 ^ n)]
    have : 48 + dg u n - 48 = dg u n := by omega
    rw [this]; omega
theorem chr_ne {d : Nat} (h : d < 10) : chr d ≠ 46 ∧ chr d ≠ 45 := by
  constructor <;> intro e <;> have h1 := chr_nat h <;> rw [e] at h1
  · have : (46 : UInt8).toNat = 46 := rfl
    omega
  · have : (45 : UInt8).toNat = 45 := rfl
    omega
theorem txtBody_low (u s n : Nat) (h : n ≤ s) : txtBody u s n = dd u n := by
  induction n with
  | zero => rfl
  | succ n ih => rw [txtBody, if_neg (by omega), ih (by omega), dd]
theorem cut_cons {c : UInt8} (h : c ≠ 46) (l : List UInt8) : cutDot (c :: l) = (c :: (cutDot l).1, (cutDot l).2.1, (cutDot l).2.2) := by
  rw [cutDot, if_neg h]
theorem cut_body (u s n : Nat) (h : s < n) : ∃ pre, pre ≠ [] ∧ pre ++ dd u s = dd u n ∧ cutDot (txtBody u s n) = (pre, dd u s, decide (0 < s)) := by
  induction n with
  | zero => omega
  | succ i ih =>
    have hc := (chr_ne (dg_lt u i)).1
    rw [txtBody]
    by_cases hi : i = s
    · subst hi
      refine ⟨[chr (dg u i)], by simp, rfl, ?_⟩
      by_cases h0 : 0 < i
      · rw [if_pos ⟨rfl, h0⟩, cut_cons hc, cutDot, if_pos rfl, txtBody_low u i i (Nat.le_refl _)]
        simp [h0]
      · obtain rfl : i = 0 := by omega
        simp [cutDot, txtBody, dd, hc]
    · obtain ⟨pre, h1, h2, h3⟩ := ih (by omega)
      rw [if_neg (fun e => hi e.1), cut_cons hc, h3]
      exact ⟨chr (dg u i) :: pre, by simp, by rw [dd, List.cons_append, h2], rfl⟩
/-- The parts of a text, as the program takes it apart. -/
def negOf (l : List UInt8) : Bool := Lib.hasPrefix l [45]
def restOf (l : List UInt8) : List UInt8 := Lib.trimPrefix l [45]
def wholeOf (l : List UInt8) : List UInt8 := (cutDot (restOf l)).1
def partOf (l : List UInt8) : List UInt8 := (cutDot (restOf l)).2.1
def pointOf (l : List UInt8) : Bool := (cutDot (restOf l)).2.2
def uOf (l : List UInt8) : Nat := valD (wholeOf l ++ partOf l)
/-- Does the program take the text for a decimal's? -/
def parseB (l : List UInt8) : Bool :=
  (((((wholeOf l ++ partOf l).all isD && decide ((wholeOf l ++ partOf l).length ≤ 128)) && !(wholeOf l).isEmpty) && (pointOf l == !(partOf l).isEmpty)) && decide ((partOf l).length ≤ 31)) && decide (dl (uOf l) ≤ 31) && (txt (negOf l) (uOf l) (partOf l).length == l)
theorem txt_split {neg : Bool} {u : Nat} (s : Nat) (h : neg = true → u ≠ 0) : negOf (txt neg u s) = neg ∧ restOf (txt neg u s) = txtBody u s (txtLen u s) := by
  obtain ⟨i, hi⟩ : ∃ i, txtLen u s = i + 1 := ⟨txtLen u s - 1, by have := txtLen_pos u s; omega⟩
  have hc := (chr_ne (dg_lt u i)).2
  unfold negOf restOf Lib.trimPrefix Lib.hasPrefix txt
  cases neg with
  | true =>
    have : (u == 0) = false := by simpa using h rfl
    rw [this]; simp
  | false =>
    rw [hi, txtBody]
    simp [List.isPrefixOf]
    exact fun e => hc e.symm
theorem good_parse {neg : Bool} {u s : Nat} (g : Good neg u s) :
    negOf (txt neg u s) = neg ∧ uOf (txt neg u s) = u ∧ (partOf (txt neg u s)).length = s ∧ (wholeOf (txt neg u s) ++ partOf (txt neg u s)) = dd u (txtLen u s) ∧ wholeOf (txt neg u s) ≠ [] ∧ pointOf (txt neg u s) = !(partOf (txt neg u s)).isEmpty := by
  obtain ⟨h1, h2⟩ := txt_split s g.sign
  obtain ⟨pre, p1, p2, p3⟩ := cut_body u s (txtLen u s) (by unfold txtLen; omega)
  have e : wholeOf (txt neg u s) ++ partOf (txt neg u s) = dd u (txtLen u s) := by
    unfold wholeOf partOf; rw [h2, p3]; exact p2
  refine ⟨h1, ?_, ?_, e, ?_, ?_⟩
  · unfold uOf
    rw [e, dd_val, Nat.mod_eq_of_lt]
    exact Nat.lt_of_lt_of_le (lt_pow_dl u) (Nat.pow_le_pow_right (by decide) (by unfold txtLen; omega))
  · unfold partOf; rw [h2, p3]; exact dd_length u s
  · unfold wholeOf; rw [h2, p3]; exact p1
  · unfold pointOf partOf
    rw [h2, p3]
    cases s with
    | zero => rfl
    | succ s => simp [dd]
theorem parseB_txt {neg : Bool} {u s : Nat} (g : Good neg u s) : parseB (txt neg u s) = true := by
  obtain ⟨h1, h2, h3, h4, h5, h6⟩ := good_parse g
  unfold parseB
  rw [h1, h2, h3, h4, h6, dd_all, dd_length]
  have : txtLen u s ≤ 128 := by have := g.u31; have := g.s31; unfold txtLen; omega
  have h7 : (wholeOf (txt neg u s)).isEmpty = false := by simpa using h5
  rw [h7]
  simp [this, g.u31, g.s31]
theorem parseB_good {l : List UInt8} (h : parseB l = true) : Good (negOf l) (uOf l) (partOf l).length ∧ txt (negOf l) (uOf l) (partOf l).length = l := by
  unfold parseB at h
  simp only [Bool.and_eq_true, decide_eq_true_eq, beq_iff_eq] at h
  obtain ⟨⟨⟨⟨⟨⟨h1, h2⟩, h3⟩, h4⟩, h5⟩, h6⟩, h7⟩ := h
  refine ⟨⟨h6, h5, fun hn h0 => ?_⟩, h7⟩
  rw [h0] at h7
  unfold negOf Lib.hasPrefix at hn
  unfold txt at h7
  obtain ⟨i, hi⟩ : ∃ i, txtLen 0 (partOf l).length = i + 1 := ⟨txtLen 0 (partOf l).length - 1, by have := txtLen_pos 0 (partOf l).length; omega⟩
  rw [hi, txtBody] at h7
  simp at h7
  rw [← h7] at hn
  simp [List.isPrefixOf] at hn
  exact (chr_ne (dg_lt 0 i)).2 hn.symm
end Go.Proofs.YtkcogoibaodbeaaGreatDoor
