/- number.times. -/
import Derived.Test.YtkcogoibaodbeaaGreatDoorNum2
import Derived.Test.YtkcogoibaodbeaaGreatDoorParse
import Derived.OrdersHeld
import Derived.Deep.RegionHeld
set_option linter.unusedVariables false
set_option linter.unusedSimpArgs false
namespace Go.Proofs.YtkcogoibaodbeaaGreatDoor
open Go.RowKit
attribute [local irreducible] ncells wcells
set_option maxRecDepth 100000 in
set_option maxHeartbeats 4000000 in
theorem numtimes_any (na : Bool) (a sa : Nat) (nb : Bool) (b sb : Nat) (w : World) (ha : a < Big) (hb : b < Big) (hsa : sa < 128) (hsb : sb < 128) (hd : dl a + dl b ≤ 128) :
    Calls Tryz.prog 55 #[.agg (ncells na a sa), .agg (ncells nb b sb)] w fun e w' => e = .returned (.agg (ncells (!(na == nb)) (a * b) ((sa : Int) + (sb : Int)))) ∧ Below w.heap.size w w' := by
  have HA := Lib.hid ha
  have HB := Lib.hid hb
  have HD := Lib.hid hd
  clear ha hb hd
  have T0 := (((Blk.nil w).lay rfl (ncells na a sa) 45).lay (by simp) (ncells nb b sb) 45).lay (by simp) (ncells false 0 0) 45
  have TD := T0.drew
  have TE := ((((Blk.nil w).lay rfl (ncells na a sa) 45).lay (by simp) (ncells nb b sb) 45).more (.cells (ncells false 0 0) 45)).drew
  have h1 : IntKind.i64.wrap ((sa : Int) + (sb : Int)) = (sa : Int) + (sb : Int) := IntWalk.i64_in _ (by omega)
  go_enter Tryz.func55, Tryz.ntmps55
  go_wp2
  refine wp_region_held_drew (S := fun W => Blk w W [ncells na a sa, ncells nb b sb]) (by kernel_rfl) TE (fun hHeld => ?_)
  refine wpAnyH_take (i := 0) (v := Value.pointer (some ⟨w.heap.size, 0, none⟩)) rfl (by kernel_rfl) (by kernel_rfl) (by kernel_rfl) (fun _ _ _ h => h) (Or.inl ⟨by rfl, fun W T => ?_⟩) (by assumption) ?_
  · go_simp
  simp only [Act.put, List.setIfInBounds_toArray, List.set_cons_zero, List.set_cons_succ]
  refine wpAnyH_take (i := 1) (v := .bool na) rfl (by kernel_rfl) (by kernel_rfl) (by kernel_rfl) (fun _ _ _ h => h) (Or.inl ⟨by rfl, fun W T => ?_⟩) (by assumption) ?_
  · have r0 : rowOf _ (w.heap.size) = _ := T.row 0 _ rfl; have r1 : rowOf _ (w.heap.size + 1) = _ := T.row 1 _ rfl; have c0 : World.cell? _ ⟨w.heap.size, 0, none⟩ = some (.bool na) := T.sgn 0 rfl; have c1 : World.cell? _ ⟨w.heap.size + 1, 0, none⟩ = some (.bool nb) := T.sgn 1 rfl; have d0 : World.cell? _ ⟨w.heap.size, 129, none⟩ = some (.int .i64 sa) := T.scale 0 rfl; have d1 : World.cell? _ ⟨w.heap.size + 1, 129, none⟩ = some (.int .i64 sb) := T.scale 1 rfl; go_simp
  simp only [Act.put, List.setIfInBounds_toArray, List.set_cons_zero, List.set_cons_succ]
  refine wpAnyH_take (i := 2) (v := Value.pointer (some ⟨w.heap.size + 1, 0, none⟩)) rfl (by kernel_rfl) (by kernel_rfl) (by kernel_rfl) (fun _ _ _ h => h) (Or.inl ⟨by rfl, fun W T => ?_⟩) (by assumption) ?_
  · go_simp
  simp only [Act.put, List.setIfInBounds_toArray, List.set_cons_zero, List.set_cons_succ]
  refine wpAnyH_take (i := 3) (v := .bool nb) rfl (by kernel_rfl) (by kernel_rfl) (by kernel_rfl) (fun _ _ _ h => h) (Or.inl ⟨by rfl, fun W T => ?_⟩) (by assumption) ?_
  · have r0 : rowOf _ (w.heap.size) = _ := T.row 0 _ rfl; have r1 : rowOf _ (w.heap.size + 1) = _ := T.row 1 _ rfl; have c0 : World.cell? _ ⟨w.heap.size, 0, none⟩ = some (.bool na) := T.sgn 0 rfl; have c1 : World.cell? _ ⟨w.heap.size + 1, 0, none⟩ = some (.bool nb) := T.sgn 1 rfl; have d0 : World.cell? _ ⟨w.heap.size, 129, none⟩ = some (.int .i64 sa) := T.scale 0 rfl; have d1 : World.cell? _ ⟨w.heap.size + 1, 129, none⟩ = some (.int .i64 sb) := T.scale 1 rfl; go_simp
  simp only [Act.put, List.setIfInBounds_toArray, List.set_cons_zero, List.set_cons_succ]
  refine wpAnyH_take (i := 4) (v := .bool (!(na == nb))) rfl (by kernel_rfl) (by kernel_rfl) (by kernel_rfl) (fun _ _ _ h => h) (Or.inl ⟨by rfl, fun W T => ?_⟩) (by assumption) ?_
  · go_simp
  simp only [Act.put, List.setIfInBounds_toArray, List.set_cons_zero, List.set_cons_succ]
  refine wpAnyH_take (i := 5) (v := Value.pointer (some ⟨w.heap.size, 1, none⟩)) rfl (by kernel_rfl) (by kernel_rfl) (by kernel_rfl) (fun _ _ _ h => h) (Or.inl ⟨by rfl, fun W T => ?_⟩) (by assumption) ?_
  · go_simp
  simp only [Act.put, List.setIfInBounds_toArray, List.set_cons_zero, List.set_cons_succ]
  refine wpAnyH_take (i := 6) (v := .agg (wcells a)) rfl (by kernel_rfl) (by kernel_rfl) (by kernel_rfl) (fun _ _ _ h => h) (Or.inl ⟨by rfl, fun W T => ?_⟩) (by assumption) ?_
  · have r0 : rowOf _ (w.heap.size) = _ := T.row 0 _ rfl; have r1 : rowOf _ (w.heap.size + 1) = _ := T.row 1 _ rfl; have c0 : World.cell? _ ⟨w.heap.size, 0, none⟩ = some (.bool na) := T.sgn 0 rfl; have c1 : World.cell? _ ⟨w.heap.size + 1, 0, none⟩ = some (.bool nb) := T.sgn 1 rfl; have d0 : World.cell? _ ⟨w.heap.size, 129, none⟩ = some (.int .i64 sa) := T.scale 0 rfl; have d1 : World.cell? _ ⟨w.heap.size + 1, 129, none⟩ = some (.int .i64 sb) := T.scale 1 rfl; go_simp
  simp only [Act.put, List.setIfInBounds_toArray, List.set_cons_zero, List.set_cons_succ]
  refine wpAnyH_take (i := 7) (v := Value.pointer (some ⟨w.heap.size + 1, 1, none⟩)) rfl (by kernel_rfl) (by kernel_rfl) (by kernel_rfl) (fun _ _ _ h => h) (Or.inl ⟨by rfl, fun W T => ?_⟩) (by assumption) ?_
  · go_simp
  simp only [Act.put, List.setIfInBounds_toArray, List.set_cons_zero, List.set_cons_succ]
  refine wpAnyH_take (i := 8) (v := .agg (wcells b)) rfl (by kernel_rfl) (by kernel_rfl) (by kernel_rfl) (fun _ _ _ h => h) (Or.inl ⟨by rfl, fun W T => ?_⟩) (by assumption) ?_
  · have r0 : rowOf _ (w.heap.size) = _ := T.row 0 _ rfl; have r1 : rowOf _ (w.heap.size + 1) = _ := T.row 1 _ rfl; have c0 : World.cell? _ ⟨w.heap.size, 0, none⟩ = some (.bool na) := T.sgn 0 rfl; have c1 : World.cell? _ ⟨w.heap.size + 1, 0, none⟩ = some (.bool nb) := T.sgn 1 rfl; have d0 : World.cell? _ ⟨w.heap.size, 129, none⟩ = some (.int .i64 sa) := T.scale 0 rfl; have d1 : World.cell? _ ⟨w.heap.size + 1, 129, none⟩ = some (.int .i64 sb) := T.scale 1 rfl; go_simp
  simp only [Act.put, List.setIfInBounds_toArray, List.set_cons_zero, List.set_cons_succ]
  refine wpAnyH_take (i := 10) (v := Value.pointer (some ⟨w.heap.size, 129, none⟩)) rfl (by kernel_rfl) (by kernel_rfl) (by kernel_rfl) (fun _ _ _ h => h) (Or.inl ⟨by rfl, fun W T => ?_⟩) (by assumption) ?_
  · go_simp
  simp only [Act.put, List.setIfInBounds_toArray, List.set_cons_zero, List.set_cons_succ]
  refine wpAnyH_take (i := 11) (v := .int .i64 sa) rfl (by kernel_rfl) (by kernel_rfl) (by kernel_rfl) (fun _ _ _ h => h) (Or.inl ⟨by rfl, fun W T => ?_⟩) (by assumption) ?_
  · have r0 : rowOf _ (w.heap.size) = _ := T.row 0 _ rfl; have r1 : rowOf _ (w.heap.size + 1) = _ := T.row 1 _ rfl; have c0 : World.cell? _ ⟨w.heap.size, 0, none⟩ = some (.bool na) := T.sgn 0 rfl; have c1 : World.cell? _ ⟨w.heap.size + 1, 0, none⟩ = some (.bool nb) := T.sgn 1 rfl; have d0 : World.cell? _ ⟨w.heap.size, 129, none⟩ = some (.int .i64 sa) := T.scale 0 rfl; have d1 : World.cell? _ ⟨w.heap.size + 1, 129, none⟩ = some (.int .i64 sb) := T.scale 1 rfl; go_simp
  simp only [Act.put, List.setIfInBounds_toArray, List.set_cons_zero, List.set_cons_succ]
  refine wpAnyH_take (i := 12) (v := Value.pointer (some ⟨w.heap.size + 1, 129, none⟩)) rfl (by kernel_rfl) (by kernel_rfl) (by kernel_rfl) (fun _ _ _ h => h) (Or.inl ⟨by rfl, fun W T => ?_⟩) (by assumption) ?_
  · go_simp
  simp only [Act.put, List.setIfInBounds_toArray, List.set_cons_zero, List.set_cons_succ]
  refine wpAnyH_take (i := 13) (v := .int .i64 sb) rfl (by kernel_rfl) (by kernel_rfl) (by kernel_rfl) (fun _ _ _ h => h) (Or.inl ⟨by rfl, fun W T => ?_⟩) (by assumption) ?_
  · have r0 : rowOf _ (w.heap.size) = _ := T.row 0 _ rfl; have r1 : rowOf _ (w.heap.size + 1) = _ := T.row 1 _ rfl; have c0 : World.cell? _ ⟨w.heap.size, 0, none⟩ = some (.bool na) := T.sgn 0 rfl; have c1 : World.cell? _ ⟨w.heap.size + 1, 0, none⟩ = some (.bool nb) := T.sgn 1 rfl; have d0 : World.cell? _ ⟨w.heap.size, 129, none⟩ = some (.int .i64 sa) := T.scale 0 rfl; have d1 : World.cell? _ ⟨w.heap.size + 1, 129, none⟩ = some (.int .i64 sb) := T.scale 1 rfl; go_simp
  simp only [Act.put, List.setIfInBounds_toArray, List.set_cons_zero, List.set_cons_succ]
  refine wpAnyH_take (i := 14) (v := .int .i64 ((sa : Int) + (sb : Int))) rfl (by kernel_rfl) (by kernel_rfl) (by kernel_rfl) (fun _ _ _ h => h) (Or.inl ⟨by rfl, fun W T => ?_⟩) (by assumption) ?_
  · go_simp
  simp only [Act.put, List.setIfInBounds_toArray, List.set_cons_zero, List.set_cons_succ]
  refine wpAnyH_ready (rs := [9]) (by kernel_rfl) (by simp) ?_
  refine AllReadyH.cons rfl (fun K hK => ?_) AllReadyH.nil
  go_simp
  go_at_call 78
  refine (times_any _ _ _ HA.out HB.out HD.out).mono ?_
  rintro e w1 ⟨rfl, hbk⟩
  have T5 := TD.kept hbk
  have T6 := TE.kept hbk
  go_wp2_with fail
  refine hK.out _ _ T6 (fun _ => ?_)
  clear hK K
  try simp only [Act.put, List.setIfInBounds_toArray, List.set_cons_zero, List.set_cons_succ]
  refine wpAnyH_take (i := 15) (v := .agg (ncells (!(na == nb)) (a * b) ((sa : Int) + (sb : Int)))) rfl (by kernel_rfl) (by kernel_rfl) (by kernel_rfl) (fun _ _ _ h => h) (Or.inl ⟨by rfl, fun W T => ?_⟩) (by assumption) ?_
  · go_simp
  simp only [Act.put, List.setIfInBounds_toArray, List.set_cons_zero, List.set_cons_succ]
  have r2 : rowOf _ (w.heap.size + 1 + 1) = _ := T5.row 2 _ rfl
  have f2 : freeOf _ (w.heap.size + 1 + 1) = _ := T5.fr 2 rfl
  refine wpAnyH_ready (rs := [16]) (by kernel_rfl) (by simp) ?_
  refine AllReadyH.cons rfl (fun K hK => ?_) AllReadyH.nil
  go_simp
  refine hK.out _ _ (T6.putOther _ _ _ (by simp)) (fun _ => ?_)
  refine wpAnyH_done (by kernel_rfl) ?_ _
  go_wp2
  refine ret_row (b := w.heap.size + 1 + 1) (C := ncells (!(na == nb)) (a * b) ((sa : Int) + (sb : Int))) rfl rtNum rfl (by go_simp) (by simp) ⟨rfl, ?_⟩
  exact T5.below.putRow (by omega) _ _
theorem numtimes_nat (na : Bool) (a sa : Nat) (nb : Bool) (b sb : Nat) (w : World) (ha : a < Big) (hb : b < Big) (hsa : sa < 128) (hsb : sb < 128) (hd : dl a + dl b ≤ 128) :
    Calls Tryz.prog 55 #[.agg (ncells na a sa), .agg (ncells nb b sb)] w fun e w' => e = .returned (.agg (ncells (!(na == nb)) (a * b) ((sa + sb : Nat) : Int))) ∧ Below w.heap.size w w' := by
  rw [Int.natCast_add]
  exact numtimes_any na a sa nb b sb w ha hb hsa hsb hd
end Go.Proofs.YtkcogoibaodbeaaGreatDoor
