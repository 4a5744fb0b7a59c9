/- The references' decimals: made. The references' cut. The references' Text, whole. -/
import Derived.Test.YtkcogoibaodbeaaGreatDoorRefE
import Derived.Test.YtkcogoibaodbeaaGreatDoorBlk
import Derived.Test.YtkcogoibaodbeaaGreatDoorExactP
import Derived.Test.YtkcogoibaodbeaaGreatDoorTypes
import Derived.OrdersHeld
import Derived.Deep.RegionHeld
import Derived.Test.YtkcogoibaodbeaaGreatDoorRefScan
set_option linter.unusedVariables false
set_option linter.unusedSimpArgs false
namespace Go.Proofs.YtkcogoibaodbeaaGreatDoor
open Go.RowKit
/-- A reference's decimal: its three cells. -/
def rcells (neg : Bool) (u s : Nat) : Array Value := #[.bool neg, .string ⟨(ds u).toArray⟩, .int .i64 s]
@[go_sem] theorem rcells_0 (neg : Bool) (u s : Nat) : (rcells neg u s)[0]? = some (.bool neg) := rfl
@[go_sem] theorem rcells_1 (neg : Bool) (u s : Nat) : (rcells neg u s)[1]? = some (.string ⟨(ds u).toArray⟩) := rfl
@[go_sem] theorem rcells_2 (neg : Bool) (u s : Nat) : (rcells neg u s)[2]? = some (.int .i64 s) := rfl
@[go_sem] theorem rcells_e0 (neg : Bool) (u s : Nat) (h : 0 < (rcells neg u s).size) : (rcells neg u s)[0]'h = .bool neg := rfl
@[go_sem] theorem rcells_e1 (neg : Bool) (u s : Nat) (h : 1 < (rcells neg u s).size) : (rcells neg u s)[1]'h = .string ⟨(ds u).toArray⟩ := rfl
@[go_sem] theorem rcells_e2 (neg : Bool) (u s : Nat) (h : 2 < (rcells neg u s).size) : (rcells neg u s)[2]'h = .int .i64 s := rfl
@[go_sem] theorem rcells_size (neg : Bool) (u s : Nat) : (rcells neg u s).size = 3 := by simp [rcells]
theorem rtRef : RowTy Tryz.prog 48 3 := ⟨by kernel_rfl, by kernel_rfl⟩
@[go_sem ↓] theorem ldA_ref (v : Value) : Instr.loadAt 48 v = ldA 48 v := rfl
@[go_sem ↓] theorem stA_ref (v x : Value) : Instr.storeAt 48 v x = stA 48 v x := rfl
@[go_sem] theorem run_ldA_ref (w : World) (b o : Nat) (hs : o + 3 ≤ (rowOf w b).size) :
    Sem.run Tryz.prog (ldA 48 (.pointer (some ⟨b, o, none⟩))) w = .ok (.agg ((rowOf w b).extract o (o + 3))) w := run_ldA rtRef w b o hs
@[go_sem] theorem run_stA_ref (w : World) (b o : Nat) (D : Array Value) (hf : freeOf w b = true) (hn : D.size = 3) (hs : o + 3 ≤ (rowOf w b).size) (h1 : oneCells D = true) :
    Sem.run Tryz.prog (stA 48 (.pointer (some ⟨b, o, none⟩)) (.agg D)) w = .ok () (w.putRow b o D) := run_stA rtRef w b o D hf hn hs h1
@[go_sem] theorem rcells_one (neg : Bool) (u s : Nat) : oneCells (rcells neg u s) = true := by simp [oneCells, rcells, Value.oneCell']
@[go_sem] theorem three_one (x : Bool) (s : ByteArray) (k : IntKind) (i : Int) : oneCells #[.bool x, .string s, .int k i] = true := by simp [oneCells, Value.oneCell']
@[go_sem] theorem rcells_all (neg : Bool) (u s : Nat) : (rcells neg u s).extract 0 3 = rcells neg u s := rfl
@[go_sem] theorem splice_ref (a b c x y z : Value) : splice #[a, b, c] 0 #[x, y, z] = #[x, y, z] := rfl
@[go_sem] theorem splice_rcells (a b c : Value) (neg : Bool) (u s : Nat) : splice #[a, b, c] 0 (rcells neg u s) = rcells neg u s := rfl
@[go_sem] theorem splice_rr (n : Bool) (v t : Nat) (neg : Bool) (u s : Nat) : splice (rcells n v t) 0 (rcells neg u s) = rcells neg u s := rfl
attribute [local irreducible] ds dd
theorem ds_beq (u : Nat) : (ds u == [48]) = (u == 0) := by
  rw [Bool.eq_iff_iff, beq_iff_eq, beq_iff_eq]; exact ds_48
set_option maxRecDepth 100000 in
set_option maxHeartbeats 2000000 in
theorem made_any (neg : Bool) (u k s : Nat) (w : World) (hu : u < 10 ^ k) (hk : k ≤ 1000) :
    Calls Tryz.prog 42 #[.bool neg, .string ⟨(dd u k).toArray⟩, .int .i64 s] w fun e w' => e = .returned (.agg (rcells (sgn neg u) u s)) ∧ Below w.heap.size w w' := by
  have BA := Lib.hid (fun w => bare_any u k w hu hk)
  have hs : sgn neg u = (neg && !(ds u == [48])) := by unfold sgn; rw [ds_beq]
  rw [hs]
  clear hs
  cases neg
  all_goals
    go_enter Tryz.func42, Tryz.ntmps42
    go_wp2_with (go_at_call 72; refine (BA.out _).mono ?_; rintro e w1 ⟨rfl, rfl⟩)
    exact ret_row (b := w.heap.size) rfl rtRef rfl (rowOf_alloc_at _ _ _ _ rfl) rfl ⟨rfl, (Below.refl _ _).alloc (Nat.le_refl _) _⟩
theorem made_ds (neg : Bool) (u s : Nat) (w : World) (hu : dl u ≤ 1000) :
    Calls Tryz.prog 42 #[.bool neg, .string ⟨(ds u).toArray⟩, .int .i64 s] w fun e w' => e = .returned (.agg (rcells (sgn neg u) u s)) ∧ Below w.heap.size w w' := by
  unfold ds
  exact made_any neg u (dl u) s w (lt_pow_dl u) hu
end Go.Proofs.YtkcogoibaodbeaaGreatDoor
namespace Go.Proofs.YtkcogoibaodbeaaGreatDoor
open Go.RowKit
attribute [local go_sem] ByteArray.mk_append_mk ByteArray.extract_mk
def rzero : Array Value := #[.bool false, .string ⟨#[]⟩, .int .i64 0]
@[go_sem] theorem rzero_size : rzero.size = 3 := by simp [rzero]
@[go_sem] theorem splice_rz (neg : Bool) (u s : Nat) : splice rzero 0 (rcells neg u s) = rcells neg u s := rfl
theorem scU_dn {u s t : Nat} (h : t < s) : scU u s t = u / 10 ^ (s - t) := by unfold scU; rw [if_pos h]
theorem ds_pad (u k : Nat) : ds u ++ dd 0 k = dd (u * 10 ^ k) (dl u + k) := by unfold ds; exact dd_shift u (dl u) k
theorem ds_take (u k n : Nat) (h : n = dl u - k) : List.take n (ds u) = dd (u / 10 ^ k) n := by
  subst h
  unfold ds
  by_cases hk : k ≤ dl u
  · have := dd_take u (dl u - k) k
    rw [show dl u - k + k = dl u by omega] at this
    exact this
  · rw [show dl u - k = 0 by omega]; rfl
theorem div_pow_lt (u k : Nat) : u / 10 ^ k < 10 ^ (dl u - k) := by
  rw [Nat.div_lt_iff_lt_mul (Nat.pow_pos (by decide)), ← Nat.pow_add]
  exact Nat.lt_of_lt_of_le (lt_pow_dl u) (Nat.pow_le_pow_right (by decide) (by omega))
attribute [local irreducible] ds dd
set_option maxRecDepth 100000 in
set_option maxHeartbeats 4000000 in
theorem cut_up (neg : Bool) (u S t : Nat) (w : World) (hu : dl u ≤ 400) (hS : S ≤ 200) (ht : t ≤ 200) (h : S ≤ t) :
    Calls Tryz.prog 45 #[.agg (rcells neg u S), .int .i64 t] w fun e w' => e = .returned (.agg (rcells (sgn neg (scU u S t)) (scU u S t) t)) ∧ Below w.heap.size w w' := by
  obtain ⟨k, hk⟩ : ∃ k, t - S = k := ⟨_, rfl⟩
  have hk1 : (t : Int) - (S : Int) = (k : Int) := by omega
  have wk : IntKind.i64.wrap ((t : Int) - (S : Int)) = (t : Int) - (S : Int) := IntWalk.i64_in _ (by omega)
  have h1 : (S : Int) ≤ (t : Int) := by omega
  have wk2 : IntKind.i64.wrap (k : Int) = (k : Int) := IntWalk.i64_in _ (by omega)
  have hlen : dl u + k ≤ 9223372036854775807 := by omega
  have zu := ds_length u
  have zk := dd_length 0 k
  have pad := ds_pad u k
  have hX : u * 10 ^ k < 10 ^ (dl u + k) := by rw [Nat.pow_add]; exact Nat.mul_lt_mul_of_pos_right (lt_pow_dl u) (Nat.pow_pos (by decide))
  have ZE := Lib.hid (fun w => zeros_dd k w (by omega))
  have MA := Lib.hid (fun w => made_any neg (u * 10 ^ k) (dl u + k) t w hX (by omega))
  rw [scU_up h, hk]
  have T0 := ((Blk.nil w).lay rfl (rcells neg u S) 48).lay (by simp) rzero 48
  have TD := T0.drew
  have TE := (((Blk.nil w).lay rfl (rcells neg u S) 48).more (.cells rzero 48)).drew
  go_enter Tryz.func45, Tryz.ntmps45
  go_wp2
  refine wp_region_held_drew (S := fun W => Blk w W [rcells neg u S]) (by kernel_rfl) TE (fun hHeld => ?_)
  refine wpAnyH_take (i := 0) (v := Value.pointer (some ⟨w.heap.size, 0, none⟩)) rfl (by kernel_rfl) (by kernel_rfl) (by kernel_rfl) (fun _ _ _ h => h) (Or.inl ⟨by rfl, fun W T => ?_⟩) (by assumption) ?_
  · go_simp
  simp only [Act.put, List.setIfInBounds_toArray, List.set_cons_zero, List.set_cons_succ]
  refine wpAnyH_take (i := 1) (v := .bool neg) rfl (by kernel_rfl) (by kernel_rfl) (by kernel_rfl) (fun _ _ _ h => h) (Or.inl ⟨by rfl, fun W T => ?_⟩) (by assumption) ?_
  · have c00 : World.cell? _ ⟨w.heap.size, 0, none⟩ = some (.bool neg) := T.cell 0 rfl 0; have c01 : World.cell? _ ⟨w.heap.size, 1, none⟩ = some (.string ⟨(ds u).toArray⟩) := T.cell 0 rfl 1; have c02 : World.cell? _ ⟨w.heap.size, 2, none⟩ = some (.int .i64 S) := T.cell 0 rfl 2; go_simp
  simp only [Act.put, List.setIfInBounds_toArray, List.set_cons_zero, List.set_cons_succ]
  refine wpAnyH_take (i := 2) (v := Value.pointer (some ⟨w.heap.size, 1, none⟩)) rfl (by kernel_rfl) (by kernel_rfl) (by kernel_rfl) (fun _ _ _ h => h) (Or.inl ⟨by rfl, fun W T => ?_⟩) (by assumption) ?_
  · go_simp
  simp only [Act.put, List.setIfInBounds_toArray, List.set_cons_zero, List.set_cons_succ]
  refine wpAnyH_take (i := 3) (v := .string ⟨(ds u).toArray⟩) rfl (by kernel_rfl) (by kernel_rfl) (by kernel_rfl) (fun _ _ _ h => h) (Or.inl ⟨by rfl, fun W T => ?_⟩) (by assumption) ?_
  · have c00 : World.cell? _ ⟨w.heap.size, 0, none⟩ = some (.bool neg) := T.cell 0 rfl 0; have c01 : World.cell? _ ⟨w.heap.size, 1, none⟩ = some (.string ⟨(ds u).toArray⟩) := T.cell 0 rfl 1; have c02 : World.cell? _ ⟨w.heap.size, 2, none⟩ = some (.int .i64 S) := T.cell 0 rfl 2; go_simp
  simp only [Act.put, List.setIfInBounds_toArray, List.set_cons_zero, List.set_cons_succ]
  refine wpAnyH_take (i := 4) (v := .int .i64 t) rfl (by kernel_rfl) (by kernel_rfl) (by kernel_rfl) (fun _ _ _ h => h) (Or.inl ⟨by rfl, fun W T => ?_⟩) (by assumption) ?_
  · go_simp
  simp only [Act.put, List.setIfInBounds_toArray, List.set_cons_zero, List.set_cons_succ]
  refine wpAnyH_take (i := 5) (v := Value.pointer (some ⟨w.heap.size, 2, none⟩)) rfl (by kernel_rfl) (by kernel_rfl) (by kernel_rfl) (fun _ _ _ h => h) (Or.inl ⟨by rfl, fun W T => ?_⟩) (by assumption) ?_
  · go_simp
  simp only [Act.put, List.setIfInBounds_toArray, List.set_cons_zero, List.set_cons_succ]
  refine wpAnyH_take (i := 6) (v := .int .i64 S) rfl (by kernel_rfl) (by kernel_rfl) (by kernel_rfl) (fun _ _ _ h => h) (Or.inl ⟨by rfl, fun W T => ?_⟩) (by assumption) ?_
  · have c00 : World.cell? _ ⟨w.heap.size, 0, none⟩ = some (.bool neg) := T.cell 0 rfl 0; have c01 : World.cell? _ ⟨w.heap.size, 1, none⟩ = some (.string ⟨(ds u).toArray⟩) := T.cell 0 rfl 1; have c02 : World.cell? _ ⟨w.heap.size, 2, none⟩ = some (.int .i64 S) := T.cell 0 rfl 2; go_simp
  simp only [Act.put, List.setIfInBounds_toArray, List.set_cons_zero, List.set_cons_succ]
  refine wpAnyH_take (i := 7) (v := .int .i64 k) rfl (by kernel_rfl) (by kernel_rfl) (by kernel_rfl) (fun _ _ _ h => h) (Or.inl ⟨by rfl, fun W T => ?_⟩) (by assumption) ?_
  · go_simp
  simp only [Act.put, List.setIfInBounds_toArray, List.set_cons_zero, List.set_cons_succ]
  refine wpAnyH_take (i := 10) (v := .int .i64 t) rfl (by kernel_rfl) (by kernel_rfl) (by kernel_rfl) (fun _ _ _ h => h) (Or.inl ⟨by rfl, fun W T => ?_⟩) (by assumption) ?_
  · go_simp
  simp only [Act.put, List.setIfInBounds_toArray, List.set_cons_zero, List.set_cons_succ]
  refine wpAnyH_ready (rs := [8]) (by kernel_rfl) (by simp) ?_
  refine AllReadyH.cons rfl (fun K hK => ?_) AllReadyH.nil
  go_simp
  go_at_call 70
  refine (ZE.out _).mono ?_
  rintro e w1 ⟨rfl, hb1⟩
  have TC := TE.kept hb1
  have TR := TD.kept hb1
  go_wp2_with fail
  refine hK.out _ _ TC (fun _ => ?_)
  clear hK K
  try simp only [Act.put, List.setIfInBounds_toArray, List.set_cons_zero, List.set_cons_succ]
  refine wpAnyH_take (i := 9) (v := .string ⟨(dd (u * 10 ^ k) (dl u + k)).toArray⟩) rfl (by kernel_rfl) (by kernel_rfl) (by kernel_rfl) (fun _ _ _ h => h) (Or.inl ⟨by rfl, fun W T => ?_⟩) (by assumption) ?_
  · go_simp
  simp only [Act.put, List.setIfInBounds_toArray, List.set_cons_zero, List.set_cons_succ]
  refine wpAnyH_ready (rs := [11]) (by kernel_rfl) (by simp) ?_
  refine AllReadyH.cons rfl (fun K hK => ?_) AllReadyH.nil
  go_simp
  go_at_call 42
  refine (MA.out _).mono ?_
  rintro e w2 ⟨rfl, hb2⟩
  have TC := TC.kept hb2
  have TR := TR.kept hb2
  go_wp2_with fail
  refine hK.out _ _ TC (fun _ => ?_)
  clear hK K
  try simp only [Act.put, List.setIfInBounds_toArray, List.set_cons_zero, List.set_cons_succ]
  have r2 : rowOf _ (w.heap.size + 1) = _ := TR.row 1 _ rfl
  have f2 : freeOf _ (w.heap.size + 1) = _ := TR.fr 1 rfl
  refine wpAnyH_ready (rs := [12]) (by kernel_rfl) (by simp) ?_
  refine AllReadyH.cons rfl (fun K hK => ?_) AllReadyH.nil
  go_simp
  refine hK.out _ _ (TC.putOther (w.heap.size + 1) 0 _ (by simp)) (fun _ => ?_)
  refine wpAnyH_done (by kernel_rfl) ?_ _
  go_wp2
  refine ret_row (b := w.heap.size + 1) (C := rcells (sgn neg (u * 10 ^ k)) (u * 10 ^ k) t) rfl rtRef rfl ?_ rfl ⟨rfl, TR.below.putRow (by omega) _ _⟩
  go_simp
set_option maxRecDepth 100000 in
set_option maxHeartbeats 4000000 in
theorem cut_dn (neg : Bool) (u S t : Nat) (w : World) (hu : dl u ≤ 400) (hS : S ≤ 200) (ht : t ≤ 200) (h : t < S) :
    Calls Tryz.prog 45 #[.agg (rcells neg u S), .int .i64 t] w fun e w' => e = .returned (.agg (rcells (sgn neg (scU u S t)) (scU u S t) t)) ∧ Below w.heap.size w w' := by
  obtain ⟨k, hk⟩ : ∃ k, S - t = k := ⟨_, rfl⟩
  obtain ⟨n, hn⟩ : ∃ n, dl u - k = n := ⟨_, rfl⟩
  have hk1 : (S : Int) - (t : Int) = (k : Int) := by omega
  have hn1 : max (0 : Int) ((dl u : Int) - (k : Int)) = (n : Int) := by omega
  have wk : IntKind.i64.wrap ((S : Int) - (t : Int)) = (S : Int) - (t : Int) := IntWalk.i64_in _ (by omega)
  have wk2 : IntKind.i64.wrap (k : Int) = (k : Int) := IntWalk.i64_in _ (by omega)
  have wk3 : IntKind.i64.wrap ((dl u : Int) - (k : Int)) = (dl u : Int) - (k : Int) := IntWalk.i64_in _ (by omega)
  have h1 : ¬ (S : Int) ≤ (t : Int) := by omega
  have zu := ds_length u
  have hnu : (n : Int) ≤ (dl u : Int) := by omega
  have hnu2 : n ≤ dl u := by omega
  have tk := ds_take u k n hn.symm
  have hX : u / 10 ^ k < 10 ^ n := by rw [← hn]; exact div_pow_lt u k
  have MA := Lib.hid (fun w => made_any neg (u / 10 ^ k) n t w hX (by omega))
  rw [scU_dn h, hk]
  have T0 := ((Blk.nil w).lay rfl (rcells neg u S) 48).lay (by simp) rzero 48
  have TD := T0.drew
  have TE := (((Blk.nil w).lay rfl (rcells neg u S) 48).more (.cells rzero 48)).drew
  go_enter Tryz.func45, Tryz.ntmps45
  go_wp2
  refine wp_region_held_drew (S := fun W => Blk w W [rcells neg u S]) (by kernel_rfl) TE (fun hHeld => ?_)
  refine wpAnyH_take (i := 0) (v := Value.pointer (some ⟨w.heap.size, 0, none⟩)) rfl (by kernel_rfl) (by kernel_rfl) (by kernel_rfl) (fun _ _ _ h => h) (Or.inl ⟨by rfl, fun W T => ?_⟩) (by assumption) ?_
  · go_simp
  simp only [Act.put, List.setIfInBounds_toArray, List.set_cons_zero, List.set_cons_succ]
  refine wpAnyH_take (i := 1) (v := .bool neg) rfl (by kernel_rfl) (by kernel_rfl) (by kernel_rfl) (fun _ _ _ h => h) (Or.inl ⟨by rfl, fun W T => ?_⟩) (by assumption) ?_
  · have c00 : World.cell? _ ⟨w.heap.size, 0, none⟩ = some (.bool neg) := T.cell 0 rfl 0; have c01 : World.cell? _ ⟨w.heap.size, 1, none⟩ = some (.string ⟨(ds u).toArray⟩) := T.cell 0 rfl 1; have c02 : World.cell? _ ⟨w.heap.size, 2, none⟩ = some (.int .i64 S) := T.cell 0 rfl 2; go_simp
  simp only [Act.put, List.setIfInBounds_toArray, List.set_cons_zero, List.set_cons_succ]
  refine wpAnyH_take (i := 2) (v := Value.pointer (some ⟨w.heap.size, 1, none⟩)) rfl (by kernel_rfl) (by kernel_rfl) (by kernel_rfl) (fun _ _ _ h => h) (Or.inl ⟨by rfl, fun W T => ?_⟩) (by assumption) ?_
  · go_simp
  simp only [Act.put, List.setIfInBounds_toArray, List.set_cons_zero, List.set_cons_succ]
  refine wpAnyH_take (i := 3) (v := .string ⟨(ds u).toArray⟩) rfl (by kernel_rfl) (by kernel_rfl) (by kernel_rfl) (fun _ _ _ h => h) (Or.inl ⟨by rfl, fun W T => ?_⟩) (by assumption) ?_
  · have c00 : World.cell? _ ⟨w.heap.size, 0, none⟩ = some (.bool neg) := T.cell 0 rfl 0; have c01 : World.cell? _ ⟨w.heap.size, 1, none⟩ = some (.string ⟨(ds u).toArray⟩) := T.cell 0 rfl 1; have c02 : World.cell? _ ⟨w.heap.size, 2, none⟩ = some (.int .i64 S) := T.cell 0 rfl 2; go_simp
  simp only [Act.put, List.setIfInBounds_toArray, List.set_cons_zero, List.set_cons_succ]
  refine wpAnyH_take (i := 4) (v := Value.pointer (some ⟨w.heap.size, 1, none⟩)) rfl (by kernel_rfl) (by kernel_rfl) (by kernel_rfl) (fun _ _ _ h => h) (Or.inl ⟨by rfl, fun W T => ?_⟩) (by assumption) ?_
  · go_simp
  simp only [Act.put, List.setIfInBounds_toArray, List.set_cons_zero, List.set_cons_succ]
  refine wpAnyH_take (i := 5) (v := .string ⟨(ds u).toArray⟩) rfl (by kernel_rfl) (by kernel_rfl) (by kernel_rfl) (fun _ _ _ h => h) (Or.inl ⟨by rfl, fun W T => ?_⟩) (by assumption) ?_
  · have c00 : World.cell? _ ⟨w.heap.size, 0, none⟩ = some (.bool neg) := T.cell 0 rfl 0; have c01 : World.cell? _ ⟨w.heap.size, 1, none⟩ = some (.string ⟨(ds u).toArray⟩) := T.cell 0 rfl 1; have c02 : World.cell? _ ⟨w.heap.size, 2, none⟩ = some (.int .i64 S) := T.cell 0 rfl 2; go_simp
  simp only [Act.put, List.setIfInBounds_toArray, List.set_cons_zero, List.set_cons_succ]
  refine wpAnyH_take (i := 6) (v := .int .i64 (dl u)) rfl (by kernel_rfl) (by kernel_rfl) (by kernel_rfl) (fun _ _ _ h => h) (Or.inl ⟨by rfl, fun W T => ?_⟩) (by assumption) ?_
  · go_simp
  simp only [Act.put, List.setIfInBounds_toArray, List.set_cons_zero, List.set_cons_succ]
  refine wpAnyH_take (i := 7) (v := Value.pointer (some ⟨w.heap.size, 2, none⟩)) rfl (by kernel_rfl) (by kernel_rfl) (by kernel_rfl) (fun _ _ _ h => h) (Or.inl ⟨by rfl, fun W T => ?_⟩) (by assumption) ?_
  · go_simp
  simp only [Act.put, List.setIfInBounds_toArray, List.set_cons_zero, List.set_cons_succ]
  refine wpAnyH_take (i := 8) (v := .int .i64 S) rfl (by kernel_rfl) (by kernel_rfl) (by kernel_rfl) (fun _ _ _ h => h) (Or.inl ⟨by rfl, fun W T => ?_⟩) (by assumption) ?_
  · have c00 : World.cell? _ ⟨w.heap.size, 0, none⟩ = some (.bool neg) := T.cell 0 rfl 0; have c01 : World.cell? _ ⟨w.heap.size, 1, none⟩ = some (.string ⟨(ds u).toArray⟩) := T.cell 0 rfl 1; have c02 : World.cell? _ ⟨w.heap.size, 2, none⟩ = some (.int .i64 S) := T.cell 0 rfl 2; go_simp
  simp only [Act.put, List.setIfInBounds_toArray, List.set_cons_zero, List.set_cons_succ]
  refine wpAnyH_take (i := 9) (v := .int .i64 t) rfl (by kernel_rfl) (by kernel_rfl) (by kernel_rfl) (fun _ _ _ h => h) (Or.inl ⟨by rfl, fun W T => ?_⟩) (by assumption) ?_
  · go_simp
  simp only [Act.put, List.setIfInBounds_toArray, List.set_cons_zero, List.set_cons_succ]
  refine wpAnyH_take (i := 10) (v := .int .i64 k) rfl (by kernel_rfl) (by kernel_rfl) (by kernel_rfl) (fun _ _ _ h => h) (Or.inl ⟨by rfl, fun W T => ?_⟩) (by assumption) ?_
  · go_simp
  simp only [Act.put, List.setIfInBounds_toArray, List.set_cons_zero, List.set_cons_succ]
  refine wpAnyH_take (i := 11) (v := .int .i64 ((dl u : Int) - (k : Int))) rfl (by kernel_rfl) (by kernel_rfl) (by kernel_rfl) (fun _ _ _ h => h) (Or.inl ⟨by rfl, fun W T => ?_⟩) (by assumption) ?_
  · go_simp
  simp only [Act.put, List.setIfInBounds_toArray, List.set_cons_zero, List.set_cons_succ]
  refine wpAnyH_take (i := 12) (v := .int .i64 n) rfl (by kernel_rfl) (by kernel_rfl) (by kernel_rfl) (fun _ _ _ h => h) (Or.inl ⟨by rfl, fun W T => ?_⟩) (by assumption) ?_
  · go_simp
  simp only [Act.put, List.setIfInBounds_toArray, List.set_cons_zero, List.set_cons_succ]
  refine wpAnyH_take (i := 13) (v := .string ⟨(dd (u / 10 ^ k) n).toArray⟩) rfl (by kernel_rfl) (by kernel_rfl) (by kernel_rfl) (fun _ _ _ h => h) (Or.inl ⟨by rfl, fun W T => ?_⟩) (by assumption) ?_
  · go_simp
  simp only [Act.put, List.setIfInBounds_toArray, List.set_cons_zero, List.set_cons_succ]
  refine wpAnyH_take (i := 14) (v := .int .i64 t) rfl (by kernel_rfl) (by kernel_rfl) (by kernel_rfl) (fun _ _ _ h => h) (Or.inl ⟨by rfl, fun W T => ?_⟩) (by assumption) ?_
  · go_simp
  simp only [Act.put, List.setIfInBounds_toArray, List.set_cons_zero, List.set_cons_succ]
  refine wpAnyH_ready (rs := [15]) (by kernel_rfl) (by simp) ?_
  refine AllReadyH.cons rfl (fun K hK => ?_) AllReadyH.nil
  go_simp
  go_at_call 42
  refine (MA.out _).mono ?_
  rintro e w2 ⟨rfl, hb2⟩
  have TC := TE.kept hb2
  have TR := TD.kept hb2
  go_wp2_with fail
  refine hK.out _ _ TC (fun _ => ?_)
  clear hK K
  try simp only [Act.put, List.setIfInBounds_toArray, List.set_cons_zero, List.set_cons_succ]
  have r2 : rowOf _ (w.heap.size + 1) = _ := TR.row 1 _ rfl
  have f2 : freeOf _ (w.heap.size + 1) = _ := TR.fr 1 rfl
  refine wpAnyH_ready (rs := [16]) (by kernel_rfl) (by simp) ?_
  refine AllReadyH.cons rfl (fun K hK => ?_) AllReadyH.nil
  go_simp
  refine hK.out _ _ (TC.putOther (w.heap.size + 1) 0 _ (by simp)) (fun _ => ?_)
  refine wpAnyH_done (by kernel_rfl) ?_ _
  go_wp2
  refine ret_row (b := w.heap.size + 1) (C := rcells (sgn neg (u / 10 ^ k)) (u / 10 ^ k) t) rfl rtRef rfl ?_ rfl ⟨rfl, TR.below.putRow (by omega) _ _⟩
  go_simp
theorem rcut_any (neg : Bool) (u S t : Nat) (w : World) (hu : dl u ≤ 400) (hS : S ≤ 200) (ht : t ≤ 200) :
    Calls Tryz.prog 45 #[.agg (rcells neg u S), .int .i64 t] w fun e w' => e = .returned (.agg (rcells (sgn neg (scU u S t)) (scU u S t) t)) ∧ Below w.heap.size w w' := by
  rcases Nat.lt_or_ge t S with h | h
  · exact cut_dn neg u S t w hu hS ht h
  · exact cut_up neg u S t w hu hS ht h
end Go.Proofs.YtkcogoibaodbeaaGreatDoor
namespace Go.Proofs.YtkcogoibaodbeaaGreatDoor
open Go.RowKit
attribute [local go_sem] ByteArray.mk_append_mk ByteArray.extract_mk
theorem ds_drop (u S n : Nat) (hS : S ≤ dl u) (h : n = dl u - S) : List.drop n (ds u) = dd u S := by
  subst h
  unfold ds
  have := dd_drop u (dl u - S) S
  rw [show dl u - S + S = dl u by omega] at this
  exact this
theorem dd_take_of (u S N n : Nat) (h : N = n + S) : List.take n (dd u N) = dd (u / 10 ^ S) n := by subst h; exact dd_take u n S
theorem dd_drop_of (u S N n : Nat) (h : N = n + S) : List.drop n (dd u N) = dd u S := by subst h; exact dd_drop u n S
theorem txt_eq (neg : Bool) (u S m : Nat) (h : max (dl u) (S + 1) = S + 1 + m) : txt neg u S = (if sgn neg u = true then [45] else []) ++ (dd (u / 10 ^ S) (m + 1) ++ (if 0 < S then 46 :: dd u S else [])) := by
  unfold txt sgn txtLen
  rw [h, txtBody_parts]
theorem zeros_dds (n : Nat) (w : World) (hn : n ≤ 1000) :
    Calls Tryz.prog 70 #[.int .i64 n] w fun e w' => e = .returned (.string ⟨(dd 0 n).toArray⟩) ∧ w' = w := by
  rw [← dd_zeros]; exact zeros_same n w hn
attribute [local irreducible] ds dd
set_option maxRecDepth 100000 in
set_option maxHeartbeats 2000000 in
theorem text_pad (b : Bool) (u S : Nat) (w : World) (hS : S ≤ 200) (h1 : dl u ≤ S) :
    Calls Tryz.prog 34 #[.agg (rcells b u S)] w fun e w' => e = .returned (.string ⟨((if b = true then [45] else []) ++ (dd (u / 10 ^ S) 1 ++ 46 :: dd u S)).toArray⟩) ∧ Below w.heap.size w w' := by
  have hp := dl_pos u
  have t1 : (dl u : Int) ≤ (S : Int) := by omega
  have t2 : (0 : Int) < (S : Int) := by omega
  obtain ⟨k, hk⟩ : ∃ k, S + 1 - dl u = k := ⟨_, rfl⟩
  have hk1 : (S : Int) + 1 - (dl u : Int) = (k : Int) := by omega
  have w1 : IntKind.i64.wrap ((S : Int) + 1) = (S : Int) + 1 := IntWalk.i64_in _ (by omega)
  have w2 : IntKind.i64.wrap (k : Int) = (k : Int) := IntWalk.i64_in _ (by omega)
  have w3 : IntKind.i64.wrap ((k : Int) + (dl u : Int) - (S : Int)) = 1 := by rw [show (k : Int) + (dl u : Int) - (S : Int) = 1 by omega]; exact IntWalk.i64_in _ (by omega)
  have zu := ds_length u
  have zk := dd_length 0 k
  have zS := dd_length u (S + 1)
  have pad : dd 0 k ++ ds u = dd u (S + 1) := by
    unfold ds
    rw [dd_pad u (dl u) k (lt_pow_dl u)]
    congr 1; omega
  have ZE := Lib.hid (fun w => zeros_dds k w (by omega))
  have tk := dd_take_of u S (S + 1) 1 (by omega)
  have dr := dd_drop_of u S (S + 1) 1 (by omega)
  have z1 := dd_length (u / 10 ^ S) 1
  have z2 := dd_length u S
  have tS : List.take S (dd u S) = dd u S := List.take_of_length_le (by rw [z2]; exact Nat.le_refl _)
  have e1 : (S : Int) + 1 - (S : Int) = 1 := by omega
  have w4 : IntKind.i64.wrap (1 : Int) = 1 := IntWalk.i64_in _ (by omega)
  clear hp w3
  cases b
  all_goals
    go_enter Tryz.func34, Tryz.ntmps34
    go_wp2_with (go_at_call 70; refine (ZE.out _).mono ?_; rintro e w1 ⟨rfl, rfl⟩)
    go_region
    go_wp2
    go_ret
    exact ⟨rfl, ((Below.refl _ _).alloc (Nat.le_refl _) _).drew⟩
set_option maxRecDepth 100000 in
set_option maxHeartbeats 2000000 in
theorem text_point (b : Bool) (u S n : Nat) (w : World) (hS : S ≤ 200) (hu : dl u ≤ 400) (hn : dl u = n + S) (h0 : 0 < S) (h1 : 0 < n) :
    Calls Tryz.prog 34 #[.agg (rcells b u S)] w fun e w' => e = .returned (.string ⟨((if b = true then [45] else []) ++ (dd (u / 10 ^ S) n ++ 46 :: dd u S)).toArray⟩) ∧ Below w.heap.size w w' := by
  have t1 : ¬ (dl u : Int) ≤ (S : Int) := by omega
  have t2 : (0 : Int) < (S : Int) := by omega
  have e1 : (dl u : Int) - (S : Int) = (n : Int) := by omega
  have w4 : IntKind.i64.wrap (n : Int) = n := IntWalk.i64_in _ (by omega)
  have zu := ds_length u
  have z1 := dd_length (u / 10 ^ S) n
  have z2 := dd_length u S
  have tS : List.take S (dd u S) = dd u S := List.take_of_length_le (by rw [z2]; exact Nat.le_refl _)
  have tk := ds_take u S n (by omega)
  have dr := ds_drop u S n (by omega) (by omega)
  have i1 : (n : Int) ≤ (dl u : Int) := by omega
  have i2 : n ≤ dl u := by omega
  have i3 : dl u - n = S := by omega
  have i4 : n + 1 ≤ 9223372036854775807 := by omega
  have i5 : n + 1 + S ≤ 9223372036854775807 := by omega
  cases b
  all_goals
    go_enter Tryz.func34, Tryz.ntmps34
    go_wp2
    go_region
    go_wp2
    go_ret
    exact ⟨rfl, ((Below.refl _ _).alloc (Nat.le_refl _) _).drew⟩
set_option maxRecDepth 100000 in
set_option maxHeartbeats 2000000 in
theorem text_whole (b : Bool) (u : Nat) (w : World) (hu : dl u ≤ 400) :
    Calls Tryz.prog 34 #[.agg (rcells b u 0)] w fun e w' => e = .returned (.string ⟨((if b = true then [45] else []) ++ ds u).toArray⟩) ∧ Below w.heap.size w w' := by
  have hp := dl_pos u
  have t1 : ¬ (dl u : Int) ≤ 0 := by omega
  have t3 : ¬ dl u = 0 := by omega
  have zu := ds_length u
  cases b
  all_goals
    go_enter Tryz.func34, Tryz.ntmps34
    go_wp2
    go_ret
    exact ⟨rfl, (Below.refl _ _).alloc (Nat.le_refl _) _⟩
theorem rtext_any (neg : Bool) (u S : Nat) (w : World) (hS : S ≤ 200) (hu : dl u ≤ 400) :
    Calls Tryz.prog 34 #[.agg (rcells (sgn neg u) u S)] w fun e w' => e = .returned (.string ⟨(txt neg u S).toArray⟩) ∧ Below w.heap.size w w' := by
  rcases Nat.lt_or_ge S (dl u) with h | h
  · obtain ⟨m, hm⟩ : ∃ m, dl u = m + 1 + S := ⟨dl u - S - 1, by omega⟩
    rw [txt_eq neg u S m (by omega)]
    rcases Nat.eq_zero_or_pos S with rfl | h0
    · have e : dd (u / 10 ^ 0) (m + 1) = ds u := by unfold ds; rw [hm, Nat.pow_zero, Nat.div_one]
      rw [e, if_neg (Nat.lt_irrefl 0), List.append_nil]
      exact text_whole _ u w hu
    · rw [if_pos h0]
      exact text_point _ u S (m + 1) w hS hu hm h0 (by omega)
  · have h0 : 0 < S := by have := dl_pos u; omega
    rw [txt_eq neg u S 0 (by omega), if_pos h0]
    exact text_pad _ u S w hS h
end Go.Proofs.YtkcogoibaodbeaaGreatDoor
