/- The references' sum and difference. The references' difference. The references' product and quotient. -/
import Derived.Test.YtkcogoibaodbeaaGreatDoorRefB
import Derived.Test.YtkcogoibaodbeaaGreatDoorPlus
import Derived.Test.YtkcogoibaodbeaaGreatDoorPack
set_option linter.unusedVariables false
set_option linter.unusedSimpArgs false
namespace Go.Proofs.YtkcogoibaodbeaaGreatDoor
open Go.RowKit
attribute [local go_sem] ByteArray.mk_append_mk ByteArray.extract_mk
/-- One byte, converted. -/
theorem conv_one (W : World) (d : Nat) (hd : d < 10) :
    (convert 77 9 (.slice (some ⟨W.heap.size, 0, none⟩) 1 1)).run Tryz.prog (W.alloc (.cells #[.int .u8 (48 + (d : Int))] 5)) = .ok (.string ⟨#[chr d]⟩) (W.alloc (.cells #[.int .u8 (48 + (d : Int))] 5)) := by
  have h := run_convert_bytes_back (P := Tryz.prog) (W.alloc (.cells #[.int .u8 (48 + (d : Int))] 5)) 77 9 5 ⟨W.heap.size, 0, none⟩ 1 [chr d] (by kernel_rfl) (by kernel_rfl) (by kernel_rfl) (fun j hj => by
    obtain rfl : j = 0 := by simpa using hj
    have e : (Addr.mk W.heap.size 0 none).add 0 = ⟨W.heap.size, 0, none⟩ := rfl
    rw [e, cell_row, rowOf_alloc_at _ _ _ _ rfl]
    simp [chr_nat hd])
  exact h
theorem dd_0 (u : Nat) : dd u 0 = [] := rfl
theorem dd_1 (u k : Nat) : dd u (k + 1) = chr (dg u k) :: dd u k := rfl
attribute [local irreducible] ds dd
end Go.Proofs.YtkcogoibaodbeaaGreatDoor
namespace Go.Proofs.YtkcogoibaodbeaaGreatDoor
open Go.RowKit
attribute [local go_sem] ByteArray.mk_append_mk ByteArray.extract_mk
attribute [local irreducible] ds dd
end Go.Proofs.YtkcogoibaodbeaaGreatDoor
namespace Go.Proofs.YtkcogoibaodbeaaGreatDoor
open Go.RowKit
attribute [local go_sem] ByteArray.mk_append_mk ByteArray.extract_mk
theorem dl_shift {r : Nat} (i : Nat) (h : r ≠ 0) : dl (r * 10 ^ i) = dl r + i := by
  induction i with
  | zero => rw [Nat.pow_zero, Nat.mul_one, Nat.add_zero]
  | succ i ih =>
    have h1 : 10 ≤ r * 10 ^ (i + 1) := by
      have := Nat.pow_pos (n := i) (show 0 < 10 by decide)
      have h2 : 0 < r * 10 ^ i := Nat.mul_pos (Nat.pos_of_ne_zero h) this
      rw [Nat.pow_succ, ← Nat.mul_assoc]; omega
    rw [dl_step h1, Nat.pow_succ, ← Nat.mul_assoc, Nat.mul_div_cancel _ (by decide), ih, Nat.add_assoc]
theorem ds_shift {r : Nat} (i : Nat) (h : r ≠ 0) : ds r ++ List.replicate i 48 = ds (r * 10 ^ i) := by
  unfold ds
  rw [dd_zeros, dd_shift, dl_shift i h]
theorem dl_le_of {n k : Nat} (hk : 1 ≤ k) (h : n < 10 ^ k) : dl n ≤ k := (dl_le_iff n k hk).2 h
theorem dl_mul {a b : Nat} : dl (a * b) ≤ dl a + dl b := by
  refine dl_le_of (by have := dl_pos a; omega) ?_
  rw [Nat.pow_add]
  exact Nat.mul_lt_mul'' (lt_pow_dl a) (lt_pow_dl b)
theorem zeros_dd (n : Nat) (w : World) (hn : n ≤ 1000) :
    Calls Tryz.prog 70 #[.int .i64 n] w fun e w' => e = .returned (.string ⟨(dd 0 n).toArray⟩) ∧ Below w.heap.size w w' := by
  rw [← dd_zeros]; exact zeros_any n w hn
attribute [local irreducible] ds dd
theorem ds_ne {r : Nat} (h : r ≠ 0) : ds r ≠ [48] := fun e => h (ds_48.1 e)
theorem quot_step (p b d : Nat) (hb : 0 < b) : (p * 10 + d) / b = p / b * 10 + (p % b * 10 + d) / b ∧ (p * 10 + d) % b = (p % b * 10 + d) % b := by
  have e : p * 10 + d = b * (p / b * 10) + (p % b * 10 + d) := by
    have := Nat.div_add_mod p b
    rw [← Nat.mul_assoc]
    omega
  rw [e]
  refine ⟨?_, ?_⟩
  · rw [Nat.mul_add_div hb]
  · rw [Nat.mul_add_mod]
theorem ds_at (a i : Nat) (h : i < dl a) : List.take 1 (List.drop i (ds a)) = [chr (dg a (dl a - 1 - i))] := by
  have e := dd_get a (dl a) (dl a - 1 - i) (by omega)
  rw [show dl a - 1 - (dl a - 1 - i) = i by omega, List.getElem?_eq_some_iff] at e
  obtain ⟨h1, e⟩ := e
  have h2 : i < (ds a).length := by rw [ds_length]; exact h
  rw [List.drop_eq_getElem_cons h2]
  simp only [List.take_succ_cons, List.take_zero]
  congr 1
  unfold ds
  exact e
end Go.Proofs.YtkcogoibaodbeaaGreatDoor
