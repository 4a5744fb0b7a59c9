/- The references' negated, short, plus. -/
import Derived.Test.YtkcogoibaodbeaaGreatDoorRefM
import Derived.Test.YtkcogoibaodbeaaGreatDoorDiv
import Derived.Test.YtkcogoibaodbeaaGreatDoorTwo
set_option linter.unusedVariables false
set_option linter.unusedSimpArgs false
namespace Go.Proofs.YtkcogoibaodbeaaGreatDoor
open Go.RowKit
attribute [local go_sem] ByteArray.mk_append_mk ByteArray.extract_mk
theorem dl_div_iff (u k : Nat) : dl (u / 10 ^ k) ≤ 31 ↔ dl u ≤ 31 + k := by
  rw [dl_le_iff _ _ (by decide), dl_le_iff _ _ (by omega), Nat.div_lt_iff_lt_mul (Nat.pow_pos (by decide)), ← Nat.pow_add]
theorem sgn_scU {n : Bool} {u s t : Nat} (h : sgn n u = n) (ht : s ≤ t) : sgn n (scU u s t) = n := by
  cases n with
  | false => rfl
  | true =>
    unfold sgn at h ⊢
    have hu : u ≠ 0 := by intro e; subst e; simp at h
    rw [scU_up ht]
    have : u * 10 ^ (t - s) ≠ 0 := Nat.mul_ne_zero hu (Nat.ne_of_gt (Nat.pow_pos (by decide)))
    rw [beq_eq_false_iff_ne.2 this]; rfl
theorem At.c0 {lo : Nat} {W : World} {b : Nat} {n : Bool} {u s : Nat} (T : At lo W b (rcells n u s)) : W.cell? ⟨b, 0, none⟩ = some (.bool n) := by rw [cell_row, T.row]; rfl
theorem At.c1 {lo : Nat} {W : World} {b : Nat} {n : Bool} {u s : Nat} (T : At lo W b (rcells n u s)) : W.cell? ⟨b, 1, none⟩ = some (.string ⟨(ds u).toArray⟩) := by rw [cell_row, T.row]; rfl
structure PlS (w : World) (p6 p7 : Nat) (A B : Array Value) (W : World) : Prop where
  a : At (w.heap.size + 3) W p6 A
  b : At (w.heap.size + 3) W p7 B
theorem At.drew {lo : Nat} {W : World} {b : Nat} {c : Array Value} (T : At lo W b c) : At lo W.drew b c := ⟨T.row, T.free, T.lo, T.lt⟩
attribute [local irreducible] ds dd txt
set_option maxRecDepth 100000 in
set_option maxHeartbeats 2000000 in
theorem negated_any (n : Bool) (u s : Nat) (w : World) (hu : dl u ≤ 1000) :
    Calls Tryz.prog 49 #[.agg (rcells n u s)] w fun e w' => e = .returned (.agg (rcells (sgn (!n) u) u s)) ∧ Below w.heap.size w w' := by
  have MA := Lib.hid (fun w => made_ds (!n) u s w hu)
  have T0 := ((Blk.nil w).lay rfl (rcells n u s) 48).lay (by simp) rzero 48
  go_enter Tryz.func49, Tryz.ntmps49
  go_wp2_with (go_at_call 42; refine (MA.out _).mono ?_; rintro e w1 ⟨rfl, hb⟩; have T1 := T0.kept hb; have r1 : rowOf _ (w.heap.size + 1) = _ := T1.row 1 _ rfl; have f1 : freeOf _ (w.heap.size + 1) = _ := T1.fr 1 rfl)
  refine ret_row (b := w.heap.size + 1) (C := rcells (sgn (!n) u) u s) rfl rtRef rfl (by go_simp) rfl ⟨rfl, ?_⟩
  exact T1.below.putRow (by omega) _ _
end Go.Proofs.YtkcogoibaodbeaaGreatDoor
