/- number's methods: scaled, whole, opposite, fitted. -/
import Derived.Test.YtkcogoibaodbeaaGreatDoorText
import Derived.Test.YtkcogoibaodbeaaGreatDoorBlk
import Derived.Test.YtkcogoibaodbeaaGreatDoorShift
import Derived.Test.YtkcogoibaodbeaaGreatDoorSize
import Derived.RegionTactic
import Derived.BigRegion
set_option linter.unusedVariables false
set_option linter.unusedSimpArgs false
namespace Go.Proofs.YtkcogoibaodbeaaGreatDoor
open Go.RowKit
theorem Blk.scale {w W : World} {cs : List (Array Value)} (T : Blk w W cs) (i : Nat) {neg : Bool} {u : Nat} {s : Int} (h : cs[i]? = some (ncells neg u s)) : W.cell? ⟨w.heap.size + i, 129, none⟩ = some (.int .i64 s) := by rw [T.cell i h]; exact ncells_scale _ _ _
theorem Blk.sgn {w W : World} {cs : List (Array Value)} (T : Blk w W cs) (i : Nat) {neg : Bool} {u : Nat} {s : Int} (h : cs[i]? = some (ncells neg u s)) : W.cell? ⟨w.heap.size + i, 0, none⟩ = some (.bool neg) := by rw [T.cell i h]; exact ncells_neg _ _ _
def scU (u s t : Nat) : Nat := if t < s then u / 10 ^ (s - t) else u * 10 ^ (t - s)
set_option maxRecDepth 100000 in
set_option maxHeartbeats 4000000 in
theorem scaled_any (neg : Bool) (u s t : Nat) (w : World) (hu : u < Big) (hs : s < 128) (ht : t < 128) :
    Calls Tryz.prog 44 #[.agg (ncells neg u s), .int .i64 t] w fun e w' => e = .returned (.agg (ncells neg (scU u s t) t)) ∧ Below w.heap.size w w' := by
  have HU := Lib.hid hu
  clear hu
  have T0 := (((Blk.nil w).lay rfl (ncells neg u s) 45).lay (by simp) (ncells false 0 0) 45)
  by_cases h : t < s
  · have e : scU u s t = u / 10 ^ (s - t) := if_pos h
    rw [e]
    have h1 : (s : Int) - (t : Int) = ((s - t : Nat) : Int) := by omega
    have h2 : s - t < 128 := by omega
    clear e
    go_enter Tryz.func44, Tryz.ntmps44
    go_wp2_with (go_at_call 73; refine (right_any u (s - t) _ h2 HU.out).mono ?_; rintro e w1 ⟨rfl, hb⟩; have T1 := T0.kept hb; clear hb; have r0 : rowOf w1 (w.heap.size) = _ := T1.row 0 _ rfl; have r1 : rowOf w1 (w.heap.size + 1) = _ := T1.row 1 _ rfl; have f0 : freeOf w1 (w.heap.size) = _ := T1.fr 0 rfl; have f1 : freeOf w1 (w.heap.size + 1) = _ := T1.fr 1 rfl; have z0_129 : w1.frozen? ⟨w.heap.size, 129, none⟩ = _ := T1.frozen 0 rfl 129)
    refine ret_row (b := w.heap.size + 1) (C := ncells neg (u / 10 ^ (s - t)) t) rfl rtNum rfl (by go_simp) (by simp) ⟨rfl, ?_⟩
    exact ((T1.below.putRow (Nat.le_refl _) _ _).setCell (p := ⟨w.heap.size, 129, none⟩) (Nat.le_refl _) _).putRow (by omega) _ _
  · have e : scU u s t = u * 10 ^ (t - s) := if_neg h
    rw [e]
    have h1 : (t : Int) - (s : Int) = ((t - s : Nat) : Int) := by omega
    have h2 : t - s < 128 := by omega
    clear e
    go_enter Tryz.func44, Tryz.ntmps44
    go_wp2_with (go_at_call 58; refine (left_any u (t - s) _ h2).mono ?_; rintro e w1 ⟨rfl, hb⟩; have T1 := T0.kept hb; clear hb; have r0 : rowOf w1 (w.heap.size) = _ := T1.row 0 _ rfl; have r1 : rowOf w1 (w.heap.size + 1) = _ := T1.row 1 _ rfl; have f0 : freeOf w1 (w.heap.size) = _ := T1.fr 0 rfl; have f1 : freeOf w1 (w.heap.size + 1) = _ := T1.fr 1 rfl; have z0_129 : w1.frozen? ⟨w.heap.size, 129, none⟩ = _ := T1.frozen 0 rfl 129)
    refine ret_row (b := w.heap.size + 1) (C := ncells neg (u * 10 ^ (t - s)) t) rfl rtNum rfl (by go_simp) (by simp) ⟨rfl, ?_⟩
    exact ((T1.below.putRow (Nat.le_refl _) _ _).setCell (p := ⟨w.heap.size, 129, none⟩) (Nat.le_refl _) _).putRow (by omega) _ _
def wholeR (neg : Bool) (u s : Nat) : List UInt8 × Int := if dl u ≤ 31 then (txt neg u s, 0) else ([], 4)
set_option maxRecDepth 100000 in
set_option maxHeartbeats 4000000 in
theorem whole_any (neg : Bool) (u s : Nat) (w : World) (hu : u < Big) (hs : s < 127) :
    Calls Tryz.prog 60 #[.agg (ncells neg u s)] w fun e w' => e = .returned (.tuple #[.string ⟨(wholeR neg u s).1.toArray⟩, .int .i64 (wholeR neg u s).2]) ∧ Below w.heap.size w w' := by
  have HU := Lib.hid hu
  clear hu
  have T0 := ((Blk.nil w).lay rfl (ncells neg u s) 45)
  by_cases h : dl u ≤ 31
  · have e : wholeR neg u s = (txt neg u s, 0) := if_pos h
    rw [e]
    clear e
    go_enter Tryz.func60, Tryz.ntmps60
    go_wp2_with (first | (go_at_call 40; refine (size_any _ _ HU.out).mono ?_; rintro e w1 ⟨rfl, hb⟩; have T1 := T0.kept hb; clear hb; have r0 : rowOf w1 (w.heap.size) = _ := T1.row 0 _ rfl) | (go_at_call 32; refine (text_any _ _ _ _ HU.out hs).mono ?_; rintro e w2 ⟨rfl, hb⟩; have T2 := T1.kept hb; clear hb))
    go_ret2
    exact ⟨rfl, T2.below⟩
  · have e : wholeR neg u s = ([], 4) := if_neg h
    rw [e]
    clear e
    go_enter Tryz.func60, Tryz.ntmps60
    go_wp2_with (go_at_call 40; refine (size_any _ _ HU.out).mono ?_; rintro e w1 ⟨rfl, hb⟩; have T1 := T0.kept hb; clear hb)
    go_ret2
    exact ⟨rfl, T1.below⟩
set_option maxRecDepth 100000 in
set_option maxHeartbeats 4000000 in
theorem opposite_any (neg : Bool) (u s : Nat) (w : World) :
    Calls Tryz.prog 48 #[.agg (ncells neg u s)] w fun e w' => e = .returned (.agg (ncells (!neg) u s)) ∧ Below w.heap.size w w' := by
  go_enter Tryz.func48, Tryz.ntmps48
  go_wp2
  refine ret_row (b := w.heap.size + 1) (C := ncells (!neg) u s) rfl rtNum rfl (by go_simp) (by simp) ⟨rfl, ?_⟩
  exact ((Below.refl _ w).alloc (Nat.le_refl _) _).alloc (by simp) _
/-- How many digits are left out. -/
def ftOut (u s : Nat) : Nat := max (s - 31) (dl u - 31)
def ftS (u s : Nat) : Nat := s - min (ftOut u s) s
def fittedR (neg : Bool) (u s : Nat) : List UInt8 × Int := wholeR neg (scU u s (ftS u s)) (ftS u s)
theorem scU_big (u s t : Nat) (h : t ≤ s) (hu : u < Big) (_ : s < 128) : scU u s t < Big := by
  unfold scU
  split
  · exact Nat.lt_of_le_of_lt (Nat.div_le_self _ _) hu
  · rw [show t - s = 0 by omega]; simpa using hu
attribute [local irreducible] ncells wcells
set_option maxRecDepth 100000 in
set_option maxHeartbeats 2000000 in
theorem fitted_any (neg : Bool) (u s : Nat) (w : World) (hu : u < Big) (hs : s < 127) :
    Calls Tryz.prog 74 #[.agg (ncells neg u s)] w fun e w' => e = .returned (.tuple #[.string ⟨(fittedR neg u s).1.toArray⟩, .int .i64 (fittedR neg u s).2]) ∧ Below w.heap.size w w' := by
  have HU := Lib.hid hu
  have hd := (dl_le_iff u 128 (by decide)).2 hu
  clear hu
  have T0 := ((Blk.nil w).lay rfl (ncells neg u s) 45)
  have w1 : IntKind.i64.wrap ((s : Int) - 31) = (s : Int) - 31 := IntWalk.i64_in _ (by omega)
  have w2 : IntKind.i64.wrap ((dl u : Int) - 31) = (dl u : Int) - 31 := IntWalk.i64_in _ (by omega)
  go_enter Tryz.func74, Tryz.ntmps74
  go_wp2
  go_cut [4] (fun s4 W => s4 = .int .i64 (ftOut u s) ∧ Blk w W [ncells neg u s])
  case first =>
    have TD := T0.drew
    have r0 : rowOf _ (w.heap.size) = _ := T0.row 0 _ rfl
    go_region_with (go_at_call 40; refine (size_any _ _ HU.out).mono ?_; rintro e w' ⟨rfl, hbk⟩; have T5 := Blk.kept (by assumption) hbk; clear hbk; have r0 : rowOf _ (w.heap.size) = _ := T5.row 0 _ rfl; have c9 : World.cell? _ ⟨w.heap.size, 129, none⟩ = some (.int .i64 s) := T5.scale 0 rfl)
    all_goals (go_wp2_with fail)
    all_goals (go_meet; refine ⟨?_, by assumption⟩; congr 1; unfold ftOut; omega)
  case rest =>
    obtain ⟨rfl, T1⟩ := hcut
    have r0 : rowOf _ (w.heap.size) = _ := T1.row 0 _ rfl
    have c9 : World.cell? _ ⟨w.heap.size, 129, none⟩ = some (.int .i64 s) := T1.scale 0 rfl
    have h1 : (s : Int) - min ((ftOut u s : Nat) : Int) (s : Int) = ((ftS u s : Nat) : Int) := by unfold ftS; omega
    have e : Hid (fittedR neg u s = wholeR neg (scU u s (ftS u s)) (ftS u s)) := rfl
    have hl : ftS u s ≤ s := Nat.sub_le _ _
    have hb0 := scU_big u s (ftS u s) hl HU.out (by omega)
    go_wp2_with (first | (go_at_call 44; refine (scaled_any neg u s (ftS u s) _ HU.out (by omega) (by omega)).mono ?_; rintro e w2 ⟨rfl, hb⟩; have T2 := T1.kept hb; clear hb) | (go_at_call 60; refine (whole_any neg _ (ftS u s) _ hb0 (by omega)).mono ?_; rintro e w3 ⟨rfl, hb⟩; have T3 := T2.kept hb; clear hb))
    go_ret2
    exact ⟨rfl, T3.below⟩
end Go.Proofs.YtkcogoibaodbeaaGreatDoor
