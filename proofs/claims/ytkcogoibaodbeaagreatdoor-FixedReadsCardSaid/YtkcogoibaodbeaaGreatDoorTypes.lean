/- The two great types of package fixed in the walk: loads and stores of a wide (128 cells) and of a number (130 cells) as one step. -/
import Derived.Test.YtkcogoibaodbeaaGreatDoorRows
import Derived.Test.YtkcogoibaodbeaaGreatDoorPure
import Derived.Test.YtkcogoibaodbeaaGreatDoorRow
import Derived.WalkKit
import Derived.WalkSpells
import Derived.WalkLawsBesides
import Derived.Lib.Hide
set_option linter.unusedVariables false
set_option linter.unusedSimpArgs false
namespace Go.Proofs.YtkcogoibaodbeaaGreatDoor
open Go.RowKit
theorem rtWide : RowTy Tryz.prog 41 128 := ⟨by kernel_rfl, by kernel_rfl⟩
theorem rtNum : RowTy Tryz.prog 45 130 := ⟨by kernel_rfl, by kernel_rfl⟩
@[go_sem ↓] theorem ldA_wide (v : Value) : Instr.loadAt 41 v = ldA 41 v := rfl
@[go_sem ↓] theorem ldA_num (v : Value) : Instr.loadAt 45 v = ldA 45 v := rfl
@[go_sem ↓] theorem stA_wide (v x : Value) : Instr.storeAt 41 v x = stA 41 v x := rfl
@[go_sem ↓] theorem stA_num (v x : Value) : Instr.storeAt 45 v x = stA 45 v x := rfl
@[go_sem] theorem run_ldA_wide (w : World) (b o : Nat) (hs : o + 128 ≤ (rowOf w b).size) :
    Sem.run Tryz.prog (ldA 41 (.pointer (some ⟨b, o, none⟩))) w = .ok (.agg ((rowOf w b).extract o (o + 128))) w := run_ldA rtWide w b o hs
@[go_sem] theorem run_ldA_num (w : World) (b o : Nat) (hs : o + 130 ≤ (rowOf w b).size) :
    Sem.run Tryz.prog (ldA 45 (.pointer (some ⟨b, o, none⟩))) w = .ok (.agg ((rowOf w b).extract o (o + 130))) w := run_ldA rtNum w b o hs
@[go_sem] theorem run_stA_wide (w : World) (b o : Nat) (D : Array Value) (hf : freeOf w b = true) (hn : D.size = 128) (hs : o + 128 ≤ (rowOf w b).size) (h1 : oneCells D = true) :
    Sem.run Tryz.prog (stA 41 (.pointer (some ⟨b, o, none⟩)) (.agg D)) w = .ok () (w.putRow b o D) := run_stA rtWide w b o D hf hn hs h1
@[go_sem] theorem run_stA_num (w : World) (b o : Nat) (D : Array Value) (hf : freeOf w b = true) (hn : D.size = 130) (hs : o + 130 ≤ (rowOf w b).size) (h1 : oneCells D = true) :
    Sem.run Tryz.prog (stA 45 (.pointer (some ⟨b, o, none⟩)) (.agg D)) w = .ok () (w.putRow b o D) := run_stA rtNum w b o D hf hn hs h1
attribute [go_sem] rowOf_alloc_at freeOf_alloc_at rowOf_alloc_past freeOf_alloc_past rowOf_drew freeOf_drew rowOf_setCell_same rowOf_setCell_other freeOf_setCell
  rowOf_putRow_same rowOf_putRow_other freeOf_putRow putRow_alloc_at putRow_alloc_past putRow_drew cell_putRow frozen_putRow size_putRow
@[go_sem] theorem run_copy_bytes (ty : TypeId) (w : World) (b o dLen dCap b' o' sLen sCap : Nat)
    (hf : freeOf w b = true) (hd : o + min sLen dLen ≤ (rowOf w b).size) (hs : o' + min sLen dLen ≤ (rowOf w b').size) (h1 : oneCells (rowOf w b') = true) :
    Sem.run Tryz.prog (Builtin.copy_ #[77, 77] ty #[.slice (some ⟨b, o, none⟩) dLen dCap, .slice (some ⟨b', o', none⟩) sLen sCap]) w =
      .ok (goInt ((min sLen dLen : Nat) : Int)) (w.putRow b o ((rowOf w b').extract o' (o' + min sLen dLen))) := run_copyA Tryz.underlying77 (by kernel_rfl) w b o dLen dCap b' o' sLen sCap hf hd hs h1
/-! Small facts, so that the walk's simp needs no depth for them. -/
@[go_sem] theorem lt_up1 (n : Nat) : n < n + 1 := by omega
@[go_sem] theorem lt_up2 (n : Nat) : n < n + 1 + 1 := by omega
@[go_sem] theorem lt_up3 (n : Nat) : n < n + 1 + 1 + 1 := by omega
@[go_sem] theorem lt_up4 (n : Nat) : n < n + 1 + 1 + 1 + 1 := by omega
@[go_sem] theorem lt_up5 (n : Nat) : n < n + 1 + 1 + 1 + 1 + 1 := by omega
@[go_sem] theorem lt_up6 (n : Nat) : n < n + 1 + 1 + 1 + 1 + 1 + 1 := by omega
@[go_sem] theorem lt_up7 (n : Nat) : n < n + 1 + 1 + 1 + 1 + 1 + 1 + 1 := by omega
@[go_sem] theorem lt_up8 (n : Nat) : n < n + 1 + 1 + 1 + 1 + 1 + 1 + 1 + 1 := by omega
@[go_sem] theorem lt_up9 (n : Nat) : n < n + 1 + 1 + 1 + 1 + 1 + 1 + 1 + 1 + 1 := by omega
@[go_sem] theorem lt_up10 (n : Nat) : n < n + 1 + 1 + 1 + 1 + 1 + 1 + 1 + 1 + 1 + 1 := by omega
@[go_sem] theorem lt_up11 (n : Nat) : n < n + 1 + 1 + 1 + 1 + 1 + 1 + 1 + 1 + 1 + 1 + 1 := by omega
@[go_sem] theorem lt_up12 (n : Nat) : n < n + 1 + 1 + 1 + 1 + 1 + 1 + 1 + 1 + 1 + 1 + 1 + 1 := by omega
@[go_sem] theorem lt_up13 (n : Nat) : n < n + 1 + 1 + 1 + 1 + 1 + 1 + 1 + 1 + 1 + 1 + 1 + 1 + 1 := by omega
@[go_sem] theorem lt_up14 (n : Nat) : n < n + 1 + 1 + 1 + 1 + 1 + 1 + 1 + 1 + 1 + 1 + 1 + 1 + 1 + 1 := by omega
@[go_sem] theorem lt_up15 (n : Nat) : n < n + 1 + 1 + 1 + 1 + 1 + 1 + 1 + 1 + 1 + 1 + 1 + 1 + 1 + 1 + 1 := by omega
@[go_sem] theorem lt_up16 (n : Nat) : n < n + 1 + 1 + 1 + 1 + 1 + 1 + 1 + 1 + 1 + 1 + 1 + 1 + 1 + 1 + 1 + 1 := by omega
@[go_sem] theorem ne_up2 (n : Nat) : (n + 1 + 1 = n) = False := by simp only [eq_iff_iff, iff_false]; omega
@[go_sem] theorem ne_dn2 (n : Nat) : (n = n + 1 + 1) = False := by simp only [eq_iff_iff, iff_false]; omega
@[go_sem] theorem ne_up3 (n : Nat) : (n + 1 + 1 + 1 = n) = False := by simp only [eq_iff_iff, iff_false]; omega
@[go_sem] theorem ne_dn3 (n : Nat) : (n = n + 1 + 1 + 1) = False := by simp only [eq_iff_iff, iff_false]; omega
@[go_sem] theorem ne_up4 (n : Nat) : (n + 1 + 1 + 1 + 1 = n) = False := by simp only [eq_iff_iff, iff_false]; omega
@[go_sem] theorem ne_dn4 (n : Nat) : (n = n + 1 + 1 + 1 + 1) = False := by simp only [eq_iff_iff, iff_false]; omega
@[go_sem] theorem ne_up5 (n : Nat) : (n + 1 + 1 + 1 + 1 + 1 = n) = False := by simp only [eq_iff_iff, iff_false]; omega
@[go_sem] theorem ne_dn5 (n : Nat) : (n = n + 1 + 1 + 1 + 1 + 1) = False := by simp only [eq_iff_iff, iff_false]; omega
@[go_sem] theorem ne_up6 (n : Nat) : (n + 1 + 1 + 1 + 1 + 1 + 1 = n) = False := by simp only [eq_iff_iff, iff_false]; omega
@[go_sem] theorem ne_dn6 (n : Nat) : (n = n + 1 + 1 + 1 + 1 + 1 + 1) = False := by simp only [eq_iff_iff, iff_false]; omega
@[go_sem] theorem ne_up7 (n : Nat) : (n + 1 + 1 + 1 + 1 + 1 + 1 + 1 = n) = False := by simp only [eq_iff_iff, iff_false]; omega
@[go_sem] theorem ne_dn7 (n : Nat) : (n = n + 1 + 1 + 1 + 1 + 1 + 1 + 1) = False := by simp only [eq_iff_iff, iff_false]; omega
@[go_sem] theorem ne_up8 (n : Nat) : (n + 1 + 1 + 1 + 1 + 1 + 1 + 1 + 1 = n) = False := by simp only [eq_iff_iff, iff_false]; omega
@[go_sem] theorem ne_dn8 (n : Nat) : (n = n + 1 + 1 + 1 + 1 + 1 + 1 + 1 + 1) = False := by simp only [eq_iff_iff, iff_false]; omega
@[go_sem] theorem ne_up9 (n : Nat) : (n + 1 + 1 + 1 + 1 + 1 + 1 + 1 + 1 + 1 = n) = False := by simp only [eq_iff_iff, iff_false]; omega
@[go_sem] theorem ne_dn9 (n : Nat) : (n = n + 1 + 1 + 1 + 1 + 1 + 1 + 1 + 1 + 1) = False := by simp only [eq_iff_iff, iff_false]; omega
@[go_sem] theorem ne_up10 (n : Nat) : (n + 1 + 1 + 1 + 1 + 1 + 1 + 1 + 1 + 1 + 1 = n) = False := by simp only [eq_iff_iff, iff_false]; omega
@[go_sem] theorem ne_dn10 (n : Nat) : (n = n + 1 + 1 + 1 + 1 + 1 + 1 + 1 + 1 + 1 + 1) = False := by simp only [eq_iff_iff, iff_false]; omega
@[go_sem] theorem ne_up11 (n : Nat) : (n + 1 + 1 + 1 + 1 + 1 + 1 + 1 + 1 + 1 + 1 + 1 = n) = False := by simp only [eq_iff_iff, iff_false]; omega
@[go_sem] theorem ne_dn11 (n : Nat) : (n = n + 1 + 1 + 1 + 1 + 1 + 1 + 1 + 1 + 1 + 1 + 1) = False := by simp only [eq_iff_iff, iff_false]; omega
@[go_sem] theorem ne_up12 (n : Nat) : (n + 1 + 1 + 1 + 1 + 1 + 1 + 1 + 1 + 1 + 1 + 1 + 1 = n) = False := by simp only [eq_iff_iff, iff_false]; omega
@[go_sem] theorem ne_dn12 (n : Nat) : (n = n + 1 + 1 + 1 + 1 + 1 + 1 + 1 + 1 + 1 + 1 + 1 + 1) = False := by simp only [eq_iff_iff, iff_false]; omega
@[go_sem] theorem ne_up13 (n : Nat) : (n + 1 + 1 + 1 + 1 + 1 + 1 + 1 + 1 + 1 + 1 + 1 + 1 + 1 = n) = False := by simp only [eq_iff_iff, iff_false]; omega
@[go_sem] theorem ne_dn13 (n : Nat) : (n = n + 1 + 1 + 1 + 1 + 1 + 1 + 1 + 1 + 1 + 1 + 1 + 1 + 1) = False := by simp only [eq_iff_iff, iff_false]; omega
@[go_sem] theorem ne_up14 (n : Nat) : (n + 1 + 1 + 1 + 1 + 1 + 1 + 1 + 1 + 1 + 1 + 1 + 1 + 1 + 1 = n) = False := by simp only [eq_iff_iff, iff_false]; omega
@[go_sem] theorem ne_dn14 (n : Nat) : (n = n + 1 + 1 + 1 + 1 + 1 + 1 + 1 + 1 + 1 + 1 + 1 + 1 + 1 + 1) = False := by simp only [eq_iff_iff, iff_false]; omega
@[go_sem] theorem ne_up15 (n : Nat) : (n + 1 + 1 + 1 + 1 + 1 + 1 + 1 + 1 + 1 + 1 + 1 + 1 + 1 + 1 + 1 = n) = False := by simp only [eq_iff_iff, iff_false]; omega
@[go_sem] theorem ne_dn15 (n : Nat) : (n = n + 1 + 1 + 1 + 1 + 1 + 1 + 1 + 1 + 1 + 1 + 1 + 1 + 1 + 1 + 1) = False := by simp only [eq_iff_iff, iff_false]; omega
@[go_sem] theorem ne_up16 (n : Nat) : (n + 1 + 1 + 1 + 1 + 1 + 1 + 1 + 1 + 1 + 1 + 1 + 1 + 1 + 1 + 1 + 1 = n) = False := by simp only [eq_iff_iff, iff_false]; omega
@[go_sem] theorem ne_dn16 (n : Nat) : (n = n + 1 + 1 + 1 + 1 + 1 + 1 + 1 + 1 + 1 + 1 + 1 + 1 + 1 + 1 + 1 + 1) = False := by simp only [eq_iff_iff, iff_false]; omega
/-! A number's 130 cells. -/
@[simp] theorem wcells_extract (n : Nat) : (wcells n).extract 0 128 = wcells n := Array.extract_eq_self_of_le (by simp)
theorem wcells_one (n : Nat) : oneCells (wcells n) = true := by
  unfold oneCells
  rw [Array.all_eq_true_iff_forall_mem]
  intro v hv
  simp only [wcells, List.mem_toArray, List.mem_map] at hv
  obtain ⟨i, _, rfl⟩ := hv
  rfl
/-- The cells of a number: the sign, the digits, the scale. -/
def ncells (neg : Bool) (n : Nat) (s : Int) : Array Value := #[.bool neg] ++ wcells n ++ #[.int .i64 s]
@[simp] theorem ncells_size (neg : Bool) (n : Nat) (s : Int) : (ncells neg n s).size = 130 := by simp [ncells]
@[simp] theorem ncells_extract (neg : Bool) (n : Nat) (s : Int) : (ncells neg n s).extract 0 130 = ncells neg n s := Array.extract_eq_self_of_le (by simp)
theorem ncells_get (neg : Bool) (n : Nat) (s : Int) (i : Nat) (h : i < 130) : (ncells neg n s)[i]? = some (if i = 0 then .bool neg else if i = 129 then .int .i64 s else .int .u8 (dg n (i - 1))) := by
  unfold ncells
  rw [Array.append_assoc, Array.getElem?_append]
  by_cases h0 : i = 0
  · subst h0; simp
  · have h1 : ¬ i < (#[Value.bool neg] : Array Value).size := by simp; omega
    rw [if_neg h1, Array.getElem?_append]
    by_cases h2 : i = 129
    · subst h2; simp
    · have h3 : i - (#[Value.bool neg] : Array Value).size < (wcells n).size := by simp; omega
      rw [if_pos h3, wcells_get n _ (by simpa using h3)]
      simp [h0, h2]
@[simp] theorem ncells_neg (neg : Bool) (n : Nat) (s : Int) : (ncells neg n s)[0]? = some (.bool neg) := by rw [ncells_get _ _ _ _ (by omega)]; rfl
@[simp] theorem ncells_scale (neg : Bool) (n : Nat) (s : Int) : (ncells neg n s)[129]? = some (.int .i64 s) := by rw [ncells_get _ _ _ _ (by omega)]; rfl
@[simp] theorem ncells_elem0 (neg : Bool) (n : Nat) (s : Int) (h : 0 < (ncells neg n s).size) : (ncells neg n s)[0] = .bool neg := by
  have := ncells_neg neg n s
  rw [Array.getElem?_eq_getElem h] at this
  exact Option.some.inj this
@[simp] theorem ncells_elem129 (neg : Bool) (n : Nat) (s : Int) (h : 129 < (ncells neg n s).size) : (ncells neg n s)[129] = .int .i64 s := by
  have := ncells_scale neg n s
  rw [Array.getElem?_eq_getElem h] at this
  exact Option.some.inj this
@[simp] theorem ncells_u (neg : Bool) (n : Nat) (s : Int) : (ncells neg n s).extract 1 129 = wcells n := by
  apply Array.ext_getElem?
  intro i
  rw [Array.getElem?_extract]
  by_cases h : i < 128
  · rw [if_pos (by simp; omega), ncells_get _ _ _ _ (by omega), wcells_get n i h]
    rw [if_neg (by omega), if_neg (by omega), show 1 + i - 1 = i by omega]
  · rw [if_neg (by simp; omega), Array.getElem?_eq_none (by simp; omega)]
@[simp] theorem ncells_splice_u (neg : Bool) (n m : Nat) (s : Int) : splice (ncells neg n s) 1 (wcells m) = ncells neg m s := by
  apply Array.ext_getElem?
  intro i
  rw [splice_get _ _ _ (by simp)]
  by_cases h : i < 130
  · rw [ncells_get _ _ _ _ h, ncells_get _ _ _ _ h]
    by_cases h1 : 1 ≤ i ∧ i < 129
    · rw [if_pos (by simpa using h1), wcells_get m _ (by omega), if_neg (by omega), if_neg (by omega)]
    · rw [if_neg (by simpa using h1)]
      by_cases h0 : i = 0
      · simp [h0]
      · obtain rfl : i = 129 := by omega
        simp
  · rw [Array.getElem?_eq_none (by simp; omega), Array.getElem?_eq_none (by simp; omega)]
    simp [show ¬ i < 129 by omega, show 130 ≤ i by omega]
theorem splice_all (C D : Array Value) (h : C.size = D.size) : splice C 0 D = D := by
  apply Array.ext_getElem?
  intro i
  rw [splice_get _ _ _ (by omega)]
  by_cases h1 : i < D.size
  · rw [if_pos (by omega)]; simp
  · rw [if_neg (by omega), Array.getElem?_eq_none (by omega), Array.getElem?_eq_none (by omega)]
@[simp] theorem ncells_set_neg (neg neg' : Bool) (n : Nat) (s : Int) : (ncells neg n s).setIfInBounds 0 (.bool neg') = ncells neg' n s := by
  apply Array.ext_getElem?
  intro i
  rw [Array.getElem?_setIfInBounds]
  by_cases h : i < 130
  · rw [ncells_get _ _ _ _ h, ncells_get _ _ _ _ h]
    by_cases h0 : i = 0
    · subst h0; simp
    · rw [if_neg (fun e => h0 e.symm)]; simp [h0]
  · rw [if_neg (by omega), Array.getElem?_eq_none (by simp; omega), Array.getElem?_eq_none (by simp; omega)]
@[simp] theorem ncells_set_scale (neg : Bool) (n : Nat) (s s' : Int) : (ncells neg n s).setIfInBounds 129 (.int .i64 s') = ncells neg n s' := by
  apply Array.ext_getElem?
  intro i
  rw [Array.getElem?_setIfInBounds]
  by_cases h : i < 130
  · rw [ncells_get _ _ _ _ h, ncells_get _ _ _ _ h]
    by_cases h0 : i = 129
    · subst h0; simp
    · rw [if_neg (fun e => h0 e.symm)]; simp [h0]
  · rw [if_neg (by omega), Array.getElem?_eq_none (by simp; omega), Array.getElem?_eq_none (by simp; omega)]
theorem ncells_one (neg : Bool) (n : Nat) (s : Int) : oneCells (ncells neg n s) = true := by
  have h := wcells_one n
  unfold oneCells at *
  rw [Array.all_eq_true_iff_forall_mem] at *
  intro v hv
  simp only [ncells, Array.mem_append, List.mem_toArray, List.mem_singleton] at hv
  rcases hv with (rfl | hv) | rfl
  · rfl
  · exact h v hv
  · rfl
@[simp] theorem splice_wide (m n : Nat) : splice (wcells m) 0 (wcells n) = wcells n := splice_all _ _ (by simp)
@[simp] theorem splice_num (a b : Bool) (m n : Nat) (s t : Int) : splice (ncells a m s) 0 (ncells b n t) = ncells b n t := splice_all _ _ (by simp)
theorem dg_zero_left (i : Nat) : dg 0 i = 0 := by simp [dg]
/-- n with k zeros more. -/
theorem splice_left (n k : Nat) (hk : k < 128) : splice (wcells 0) k ((wcells n).extract 0 (128 - k)) = wcells (n * 10 ^ k) := by
  apply Array.ext_getElem?
  intro i
  have hs : ((wcells n).extract 0 (128 - k)).size = 128 - k := by simp
  rw [splice_get _ _ _ (by rw [hs]; simp; omega), hs]
  by_cases hi : i < 128
  · rw [wcells_get _ i hi, wcells_get _ i hi]
    by_cases h1 : k ≤ i
    · rw [if_pos (by omega), Array.getElem?_extract, if_pos (by simp; omega), Nat.zero_add, wcells_get _ _ (by omega)]
      congr 2
      unfold dg
      rw [show 10 ^ i = 10 ^ k * 10 ^ (i - k) by rw [← Nat.pow_add]; congr 1; omega, ← Nat.div_div_eq_div_mul, Nat.mul_div_cancel _ (Nat.pow_pos (by decide))]
    · rw [if_neg (by omega), dg_zero_left]
      congr 2
      unfold dg
      rw [show n * 10 ^ k = n * 10 ^ (k - i - 1) * 10 * 10 ^ i by rw [Nat.mul_assoc, Nat.mul_assoc, ← Nat.pow_succ', ← Nat.pow_add]; congr 2; omega, Nat.mul_div_cancel _ (Nat.pow_pos (by decide)), Nat.mul_mod_left]
  · rw [if_neg (by omega), Array.getElem?_eq_none (by simp; omega), Array.getElem?_eq_none (by simp; omega)]
/-- n with k digits less. -/
theorem splice_right (n k : Nat) (hk : k < 128) (hn : n < Big) : splice (wcells 0) 0 ((wcells n).extract k 128) = wcells (n / 10 ^ k) := by
  apply Array.ext_getElem?
  intro i
  have hs : ((wcells n).extract k 128).size = 128 - k := by simp
  rw [splice_get _ _ _ (by rw [hs]; simp), hs]
  by_cases hi : i < 128
  · rw [wcells_get _ i hi, wcells_get _ i hi]
    by_cases h1 : i < 128 - k
    · rw [if_pos (by omega), Array.getElem?_extract, if_pos (by simp; omega), Nat.sub_zero, wcells_get _ _ (by omega)]
      congr 2
      unfold dg
      rw [Nat.div_div_eq_div_mul, ← Nat.pow_add]
    · rw [if_neg (by omega), dg_zero_left]
      rw [show dg (n / 10 ^ k) i = 0 from dg_zero_of_lt ?_]
      rw [Nat.div_lt_iff_lt_mul (Nat.pow_pos (by decide)), ← Nat.pow_add]
      exact Nat.lt_of_lt_of_le hn (Nat.pow_le_pow_right (by decide) (by omega))
  · rw [if_neg (by omega), Array.getElem?_eq_none (by simp; omega), Array.getElem?_eq_none (by simp; omega)]
theorem zeroWide : Tryz.zeroCells41 = wcells 0 := by kernel_rfl
theorem zeroNum : Tryz.zeroCells45 = ncells false 0 0 := by kernel_rfl
attribute [go_sem] wcells_elem ncells_elem0 ncells_elem129 wcells_extract wcells_one ncells_size wcells_size ncells_extract ncells_neg ncells_scale ncells_u ncells_splice_u ncells_set_neg ncells_set_scale ncells_one splice_wide splice_num zeroWide zeroNum
end Go.Proofs.YtkcogoibaodbeaaGreatDoor
