/- Strings of digits: plain facts. No program in sight. How the reference goes through a text. No program in sight. -/
import Derived.Test.YtkcogoibaodbeaaGreatDoorParsePure
import Derived.Test.YtkcogoibaodbeaaGreatDoorExactP
set_option linter.unusedVariables false
set_option linter.unusedSimpArgs false
namespace Go.Proofs.YtkcogoibaodbeaaGreatDoor
/-- The digits of a number, without zeros ahead. -/
def ds (n : Nat) : List UInt8 := dd n (dl n)
theorem ds_length (n : Nat) : (ds n).length = dl n := dd_length _ _
theorem ds_zero : ds 0 = [48] := by unfold ds; rw [dl_lt10 (by decide)]; rfl
theorem ds_val (n : Nat) : valD (ds n) = n := by unfold ds; rw [dd_val, Nat.mod_eq_of_lt (lt_pow_dl n)]
theorem ds_48 {n : Nat} : ds n = [48] ↔ n = 0 := ⟨fun h => by
  have h1 := ds_val n
  rw [h] at h1
  exact h1.symm, fun h => by rw [h, ds_zero]⟩
theorem dd_get (u k i : Nat) (h : i < k) : (dd u k)[k - 1 - i]? = some (chr (dg u i)) := by
  induction k with
  | zero => omega
  | succ k ih =>
    rw [dd]
    by_cases e : i = k
    · subst e; rw [show i + 1 - 1 - i = 0 by omega]; rfl
    · rw [show k + 1 - 1 - i = (k - 1 - i) + 1 by omega, List.getElem?_cons_succ]
      exact ih (by omega)
theorem dd_congr {u v k : Nat} (h : ∀ i, i < k → dg u i = dg v i) : dd u k = dd v k := by
  induction k with
  | zero => rfl
  | succ k ih => rw [dd, dd, h k (by omega), ih (fun i hi => h i (by omega))]
theorem dg_low (u v : Nat) {i j : Nat} (h : i < j) : dg (u * 10 ^ j + v) i = dg v i := by
  unfold dg
  obtain ⟨m, rfl⟩ : ∃ m, j = i + 1 + m := ⟨j - i - 1, by omega⟩
  have e : u * 10 ^ (i + 1 + m) = 10 ^ i * (10 * (u * 10 ^ m)) := by
    rw [Nat.pow_add, Nat.pow_succ]; ac_rfl
  rw [e, Nat.mul_add_div (Nat.pow_pos (by decide))]
  omega
theorem dg_high (u : Nat) {v i j : Nat} (hv : v < 10 ^ j) : dg (u * 10 ^ j + v) (i + j) = dg u i := by
  unfold dg
  rw [Nat.add_comm i j, Nat.pow_add, ← Nat.div_div_eq_div_mul, Nat.mul_comm u, Nat.mul_add_div (Nat.pow_pos (by decide)), Nat.div_eq_of_lt hv, Nat.add_zero]
theorem dd_append (u v i j : Nat) (hv : v < 10 ^ j) : dd (u * 10 ^ j + v) (i + j) = dd u i ++ dd v j := by
  induction i with
  | zero => rw [Nat.zero_add]; exact dd_congr fun i hi => dg_low u v hi
  | succ i ih => rw [show i + 1 + j = (i + j) + 1 by omega, dd, ih, dg_high u hv]; rfl
theorem dd_snoc (u k c : Nat) (hc : c < 10) : dd (u * 10 + c) (k + 1) = dd u k ++ [chr c] := by
  have h := dd_append u c k 1 (by simpa using hc)
  rw [Nat.pow_one] at h
  rw [h]
  congr 1
  simp only [dd, dg, Nat.pow_zero, Nat.div_one]
  rw [Nat.mod_eq_of_lt hc]
theorem dg_zero_l (i : Nat) : dg 0 i = 0 := by unfold dg; rw [Nat.zero_div]
theorem dd_zeros (n : Nat) : List.replicate n 48 = dd 0 n := by
  induction n with
  | zero => rfl
  | succ n ih => rw [List.replicate_succ, ih, dd, dg_zero_l]; rfl
theorem dd_shift (u k j : Nat) : dd u k ++ dd 0 j = dd (u * 10 ^ j) (k + j) := by
  have := dd_append u 0 k j (Nat.pow_pos (by decide))
  rw [Nat.add_zero] at this
  exact this.symm
theorem dd_pad (u k j : Nat) (h : u < 10 ^ k) : dd 0 j ++ dd u k = dd u (j + k) := by
  have := dd_append 0 u j k h
  rw [Nat.zero_mul, Nat.zero_add] at this
  exact this.symm
theorem dd_split (u k j : Nat) : dd u (k + j) = dd (u / 10 ^ j) k ++ dd u j := by
  have h := dd_append (u / 10 ^ j) (u % 10 ^ j) k j (Nat.mod_lt _ (Nat.pow_pos (by decide)))
  rw [Nat.mul_comm, Nat.div_add_mod] at h
  rw [h]
  congr 1
  exact dd_congr fun i hi => by
    have := dg_low (u / 10 ^ j) (u % 10 ^ j) hi
    rw [Nat.mul_comm, Nat.div_add_mod] at this
    exact this.symm
theorem dd_take (u k j : Nat) : (dd u (k + j)).take k = dd (u / 10 ^ j) k := by
  rw [dd_split, List.take_left' (dd_length _ _)]
theorem dd_drop (u k j : Nat) : (dd u (k + j)).drop k = dd u j := by
  rw [dd_split, List.drop_left' (dd_length _ _)]
theorem dl_of {k u : Nat} (h : u < 10 ^ k) (hk : 1 ≤ k) (h0 : k = 1 ∨ dg u (k - 1) ≠ 0) : dl u = k := by
  rcases h0 with rfl | h0
  · exact dl_lt10 (by simpa using h)
  · obtain ⟨m, rfl⟩ : ∃ m, k = m + 1 := ⟨k - 1, by omega⟩
    exact dl_eq m u (le_of_dg_pos (Nat.pos_of_ne_zero h0)) h
theorem dd_of_all {l : List UInt8} (h : l.all isD = true) : l = dd (valD l) l.length := by
  induction l with
  | nil => rfl
  | cons c l ih =>
    simp only [List.all_cons, Bool.and_eq_true] at h
    have hv := valD_lt h.2
    have hc := h.1
    simp only [isD, Bool.and_eq_true, decide_eq_true_eq] at hc
    have e : (c.toNat - 48) < 10 := by omega
    rw [valD_cons, List.length_cons, show l.length + 1 = 1 + l.length by omega, dd_append _ _ _ _ hv, ← ih h.2]
    simp only [dd, dg, Nat.pow_zero, Nat.div_one, List.cons_append, List.nil_append]
    congr 1
    rw [Nat.mod_eq_of_lt e]
    unfold chr
    rw [show 48 + (c.toNat - 48) = c.toNat by omega, UInt8.ofNat_toNat]
theorem chr_lt {a b : Nat} (ha : a < 10) (hb : b < 10) : (chr a < chr b) = (a < b) := by
  rw [UInt8.lt_iff_toNat_lt, chr_nat ha, chr_nat hb]
  simp
theorem chr_inj {a b : Nat} (ha : a < 10) (hb : b < 10) : (chr a == chr b) = (a == b) := by
  rw [Bool.eq_iff_iff, beq_iff_eq, beq_iff_eq, ← UInt8.toNat_inj, chr_nat ha, chr_nat hb]
  omega
theorem less_dd (a b k : Nat) : Op.bytesLess (dd a k) (dd b k) = decide (a % 10 ^ k < b % 10 ^ k) := by
  induction k with
  | zero => simp [dd, Op.bytesLess, Nat.mod_one]
  | succ k ih =>
    have ha := dg_lt a k
    have hb := dg_lt b k
    rw [dd, dd, Op.bytesLess, ih, chr_inj ha hb, modp_succ, modp_succ]
    have h1 : a % 10 ^ k < 10 ^ k := Nat.mod_lt _ (Nat.pow_pos (by decide))
    have h2 : b % 10 ^ k < 10 ^ k := Nat.mod_lt _ (Nat.pow_pos (by decide))
    generalize a % 10 ^ k = x at *
    generalize b % 10 ^ k = y at *
    generalize 10 ^ k = p at *
    generalize dg a k = d at *
    generalize dg b k = e at *
    rw [Bool.eq_iff_iff]
    simp only [Bool.or_eq_true, Bool.and_eq_true, decide_eq_true_eq, beq_iff_eq]
    rw [chr_lt ha hb]
    rcases Nat.lt_trichotomy d e with h | rfl | h
    · have : p * d + p ≤ p * e := by rw [← Nat.mul_succ]; exact Nat.mul_le_mul_left _ h
      constructor
      · intro _; omega
      · intro _; exact Or.inl h
    · constructor
      · rintro (h | ⟨_, h⟩)
        · omega
        · omega
      · intro h; exact Or.inr ⟨rfl, by omega⟩
    · have : p * e + p ≤ p * d := by rw [← Nat.mul_succ]; exact Nat.mul_le_mul_left _ h
      constructor
      · rintro (h | ⟨_, h⟩)
        · omega
        · omega
      · intro h'; omega
/-- A decimal's text in two parts. -/
theorem txtBody_parts (u s m : Nat) : txtBody u s (s + 1 + m) = dd (u / 10 ^ s) (m + 1) ++ (if 0 < s then 46 :: dd u s else []) := by
  induction m with
  | zero =>
    rw [Nat.add_zero, txtBody, txtBody_low u s s (Nat.le_refl _)]
    have e : dg (u / 10 ^ s) 0 = dg u s := by simp only [dg, Nat.pow_zero, Nat.div_one]
    simp only [dd, e]
    by_cases h : 0 < s
    · simp [h]
    · obtain rfl : s = 0 := by omega
      simp [dd]
  | succ m ih =>
    rw [show s + 1 + (m + 1) = (s + 1 + m) + 1 by omega, txtBody, if_neg (by omega), ih]
    have e : dg (u / 10 ^ s) (m + 1) = dg u (s + 1 + m) := by
      simp only [dg]; rw [Nat.div_div_eq_div_mul, ← Nat.pow_add, show s + (m + 1) = s + 1 + m by omega]
    rw [show dd (u / 10 ^ s) (m + 1 + 1) = chr (dg (u / 10 ^ s) (m + 1)) :: dd (u / 10 ^ s) (m + 1) from rfl, e]
    rfl
end Go.Proofs.YtkcogoibaodbeaaGreatDoor
namespace Go.Proofs.YtkcogoibaodbeaaGreatDoor
/-- The point, its place, how many digits stand behind it; none at another byte. -/
def scan : List UInt8 → Nat → Bool → Int → Nat → Option (Bool × Int × Nat)
  | [], _, p, f, b => some (p, f, b)
  | c :: l, i, p, f, b =>
    if c = 46 ∧ p = false then scan l (i + 1) true i b
    else if isD c = true then scan l (i + 1) p f (if p then b + 1 else b)
    else none
theorem isD_46 : isD 46 = false := by decide
theorem scan_behind (l : List UInt8) (i : Nat) (f : Int) (b : Nat) : scan l i true f b = if l.all isD = true then some (true, f, b + l.length) else none := by
  induction l generalizing i b with
  | nil => simp [scan]
  | cons c l ih =>
    rw [scan, if_neg (by simp)]
    by_cases h : isD c = true
    · rw [if_pos h, ih, List.all_cons, h, Bool.true_and, if_pos rfl, List.length_cons, show b + 1 + l.length = b + (l.length + 1) by omega]
    · rw [if_neg h, if_neg]
      rw [List.all_cons]
      simp [h]
theorem scan_cut (l : List UInt8) (i b : Nat) : scan l i false (-1) b = if ((cutDot l).1 ++ (cutDot l).2.1).all isD = true then some ((cutDot l).2.2, if (cutDot l).2.2 then ((i + (cutDot l).1.length : Nat) : Int) else -1, b + (cutDot l).2.1.length) else none := by
  induction l generalizing i with
  | nil => simp [scan, cutDot]
  | cons c l ih =>
    rw [scan]
    by_cases h : c = 46
    · subst h
      rw [if_pos ⟨rfl, rfl⟩, scan_behind, cutDot, if_pos rfl]
      simp
    · rw [if_neg (fun e => h e.1), cut_cons h]
      by_cases hd : isD c = true
      · rw [if_pos hd]
        simp only [Bool.false_eq_true, if_false]
        rw [ih]
        simp only [List.cons_append, List.all_cons, hd, Bool.true_and, Bool.false_eq_true, if_false, List.length_cons]
        rw [show i + 1 + (cutDot l).1.length = i + ((cutDot l).1.length + 1) by omega]
      · rw [if_neg hd, if_neg]
        rw [List.cons_append, List.all_cons]
        simp [hd]
/-- Without the point. -/
theorem cut_join (l : List UInt8) (h : (cutDot l).2.2 = true) : l.take (cutDot l).1.length ++ l.drop ((cutDot l).1.length + 1) = (cutDot l).1 ++ (cutDot l).2.1 ∧ (cutDot l).1.length + 1 ≤ l.length := by
  rcases cutDot_cases l with ⟨_, e⟩ | ⟨i, _, hl, e⟩
  · rw [e] at h; cases h
  · have : (cutDot l).1.length = i := by rw [e, List.length_take]; omega
    rw [this, e]
    exact ⟨rfl, hl⟩
theorem cut_nopoint (l : List UInt8) (h : (cutDot l).2.2 = false) : (cutDot l).1 ++ (cutDot l).2.1 = l := by
  rcases cutDot_cases l with ⟨_, e⟩ | ⟨i, _, hl, e⟩
  · rw [e, List.append_nil]
  · rw [e] at h; cases h
/-- Does the reference take the text for a decimal's? -/
def readB (l : List UInt8) : Bool :=
  decide (l.length ≤ 40) && (wholeOf l ++ partOf l).all isD && !(wholeOf l ++ partOf l).isEmpty && decide ((partOf l).length ≤ 31) && decide (dl (uOf l) ≤ 31) && (txt (negOf l) (uOf l) (partOf l).length == l)
theorem txt_len34 {neg : Bool} {u s : Nat} (hu : dl u ≤ 31) (hs : s ≤ 31) : (txt neg u s).length ≤ 34 := by
  unfold txt
  have h : (txtBody u s (txtLen u s)).length ≤ 33 := by
    obtain ⟨m, hm⟩ : ∃ m, txtLen u s = s + 1 + m := ⟨txtLen u s - (s + 1), by unfold txtLen; omega⟩
    have : txtLen u s ≤ 32 := by unfold txtLen; omega
    rw [hm, txtBody_parts, List.length_append, dd_length]
    split
    · rw [List.length_cons, dd_length]; omega
    · simp; omega
  rw [List.length_append]
  split
  · simp; omega
  · simp; omega
theorem readB_eq (l : List UInt8) : readB l = parseB l := by
  rw [Bool.eq_iff_iff]
  constructor
  · intro h
    unfold readB at h
    simp only [Bool.and_eq_true, decide_eq_true_eq, beq_iff_eq] at h
    obtain ⟨⟨⟨⟨⟨h0, h1⟩, h2⟩, h3⟩, h4⟩, h5⟩ := h
    have g : Good (sgn (negOf l) (uOf l)) (uOf l) (partOf l).length := good_sgn _ h4 h3
    have := parseB_txt g
    rw [txt_sgn, h5] at this
    exact this
  · intro h
    obtain ⟨g, ht⟩ := parseB_good h
    have hp := good_parse g
    rw [ht] at hp
    have hl : l.length ≤ 34 := by rw [← ht]; exact txt_len34 g.u31 g.s31
    unfold parseB at h
    simp only [Bool.and_eq_true, decide_eq_true_eq, beq_iff_eq] at h
    obtain ⟨⟨⟨⟨⟨⟨h1, h2⟩, h3⟩, h4⟩, h5⟩, h6⟩, h7⟩ := h
    unfold readB
    simp only [Bool.and_eq_true, decide_eq_true_eq, beq_iff_eq]
    refine ⟨⟨⟨⟨⟨by omega, h1⟩, ?_⟩, h5⟩, h6⟩, h7⟩
    have := hp.2.2.2.2.1
    cases hw : wholeOf l with
    | nil => exact absurd hw this
    | cons c m => rfl
end Go.Proofs.YtkcogoibaodbeaaGreatDoor
