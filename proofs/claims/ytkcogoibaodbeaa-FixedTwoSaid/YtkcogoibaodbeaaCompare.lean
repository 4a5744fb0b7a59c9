/- Compare of two decimals' texts. -/
import Derived.Test.YtkcogoibaodbeaaTwo
set_option linter.unusedVariables false
set_option linter.unusedSimpArgs false
namespace Go.Proofs.Ytkcogoibaodbeaa
open Go.RowKit
attribute [local irreducible] ncells wcells txt
def cmpN (neg : Bool) (u : Nat) : Int := if u = 0 then 0 else if neg then -1 else 1
set_option maxRecDepth 100000 in
set_option maxHeartbeats 2000000 in
theorem compare_two (na : Bool) (a sa : Nat) (nb : Bool) (b sb : Nat) (p : Bool) (u S : Nat) (r : Int) (w : World) (ha : Good na a sa) (hb : Good nb b sb) (hu : u < Big)
    (CM : ∀ w, Calls Try.prog 60 #[.agg (ncells na a sa), .agg (ncells nb b sb)] w fun e w' => e = .returned (.agg (ncells p u S)) ∧ Below w.heap.size w w')
    (hr : cmpN p u = r) :
    Calls Try.prog 24 #[.string ⟨(txt na a sa).toArray⟩, .string ⟨(txt nb b sb).toArray⟩] w fun e w' => e = .returned (.tuple #[.int .i64 r, .int .i64 0]) ∧ Below w.heap.size w w' := by
  have GA := Lib.hid ha
  have GB := Lib.hid hb
  have HU := Lib.hid hu
  have CM' := Lib.hid CM
  clear ha hb hu CM
  by_cases hz : u = 0
  · have hr' : r = 0 := by rw [← hr]; simp [cmpN, hz]
    subst hr'
    have z1 : (u == 0) = true := by simpa using hz
    clear hr hz
    go_enter Try.func24, Try.ntmps24
    go_wp2_with (first
    | (go_at_call 50; have XX := X1; clear XX; refine (parse_yes _ _ _ _ GB.out).mono ?_; rintro e w2 ⟨rfl, hb⟩; have K2 := (K1.more _).kept hb; have X2 := X1.kept hb; clear hb; have r0 : rowOf _ (w1.heap.size) = _ := X2.row 0 _ rfl; have l0 : w1.heap.size < w2.heap.size := X2.lt 0 rfl; have n0 := Nat.ne_of_lt l0; have n1 := Ne.symm n0; have q0 : rowOf (w2.alloc (.cells (ncells nb b sb) 46)) (w1.heap.size) = ncells na a sa := (X2.more _).row 0 _ rfl)
    | (go_at_call 50; refine (parse_yes _ _ _ _ GA.out).mono ?_; rintro e w1 ⟨rfl, hb⟩; have K1 := (Blk.nil w).kept hb; clear hb; have X1 := (Blk.nil w1).lay rfl (ncells na a sa) 46)
    | (go_at_call 60; refine (CM'.out _).mono ?_; rintro e w3 ⟨rfl, hb⟩; have K3 := (K2.more _).kept hb; clear hb; have Y3 := (Blk.nil w3).lay rfl (ncells p u S) 46)
    | (go_at_call 53; refine (zero_any _ _ HU.out).mono ?_; rintro e w4 ⟨rfl, hb⟩; have K4 := (K3.more _).kept hb; have Y4 := Y3.kept hb; clear hb; have y0 : World.cell? _ ⟨w3.heap.size, 0, none⟩ = some (.bool p) := Y4.sgn 0 rfl))
    go_ret2
    exact ⟨rfl, K4.below⟩
  · have z1 : (u == 0) = false := by simpa using hz
    rcases p with _ | _
    · have hr' : r = 1 := by rw [← hr]; simp [cmpN, hz]
      subst hr'
      clear hr hz
      go_enter Try.func24, Try.ntmps24
      go_wp2_with (first
    | (go_at_call 50; have XX := X1; clear XX; refine (parse_yes _ _ _ _ GB.out).mono ?_; rintro e w2 ⟨rfl, hb⟩; have K2 := (K1.more _).kept hb; have X2 := X1.kept hb; clear hb; have r0 : rowOf _ (w1.heap.size) = _ := X2.row 0 _ rfl; have l0 : w1.heap.size < w2.heap.size := X2.lt 0 rfl; have n0 := Nat.ne_of_lt l0; have n1 := Ne.symm n0; have q0 : rowOf (w2.alloc (.cells (ncells nb b sb) 46)) (w1.heap.size) = ncells na a sa := (X2.more _).row 0 _ rfl)
    | (go_at_call 50; refine (parse_yes _ _ _ _ GA.out).mono ?_; rintro e w1 ⟨rfl, hb⟩; have K1 := (Blk.nil w).kept hb; clear hb; have X1 := (Blk.nil w1).lay rfl (ncells na a sa) 46)
    | (go_at_call 60; refine (CM'.out _).mono ?_; rintro e w3 ⟨rfl, hb⟩; have K3 := (K2.more _).kept hb; clear hb; have Y3 := (Blk.nil w3).lay rfl (ncells false u S) 46)
    | (go_at_call 53; refine (zero_any _ _ HU.out).mono ?_; rintro e w4 ⟨rfl, hb⟩; have K4 := (K3.more _).kept hb; have Y4 := Y3.kept hb; clear hb; have y0 : World.cell? _ ⟨w3.heap.size, 0, none⟩ = some (.bool false) := Y4.sgn 0 rfl))
      go_ret2
      exact ⟨rfl, K4.below⟩
    · have hr' : r = -1 := by rw [← hr]; simp [cmpN, hz]
      subst hr'
      clear hr hz
      go_enter Try.func24, Try.ntmps24
      go_wp2_with (first
    | (go_at_call 50; have XX := X1; clear XX; refine (parse_yes _ _ _ _ GB.out).mono ?_; rintro e w2 ⟨rfl, hb⟩; have K2 := (K1.more _).kept hb; have X2 := X1.kept hb; clear hb; have r0 : rowOf _ (w1.heap.size) = _ := X2.row 0 _ rfl; have l0 : w1.heap.size < w2.heap.size := X2.lt 0 rfl; have n0 := Nat.ne_of_lt l0; have n1 := Ne.symm n0; have q0 : rowOf (w2.alloc (.cells (ncells nb b sb) 46)) (w1.heap.size) = ncells na a sa := (X2.more _).row 0 _ rfl)
    | (go_at_call 50; refine (parse_yes _ _ _ _ GA.out).mono ?_; rintro e w1 ⟨rfl, hb⟩; have K1 := (Blk.nil w).kept hb; clear hb; have X1 := (Blk.nil w1).lay rfl (ncells na a sa) 46)
    | (go_at_call 60; refine (CM'.out _).mono ?_; rintro e w3 ⟨rfl, hb⟩; have K3 := (K2.more _).kept hb; clear hb; have Y3 := (Blk.nil w3).lay rfl (ncells true u S) 46)
    | (go_at_call 53; refine (zero_any _ _ HU.out).mono ?_; rintro e w4 ⟨rfl, hb⟩; have K4 := (K3.more _).kept hb; have Y4 := Y3.kept hb; clear hb; have y0 : World.cell? _ ⟨w3.heap.size, 0, none⟩ = some (.bool true) := Y4.sgn 0 rfl))
      go_ret2
      exact ⟨rfl, K4.below⟩
theorem compare_yes (na : Bool) (a sa : Nat) (nb : Bool) (b sb : Nat) (w : World) (ha : Good na a sa) (hb : Good nb b sb) :
    Calls Try.prog 24 #[.string ⟨(txt na a sa).toArray⟩, .string ⟨(txt nb b sb).toArray⟩] w fun e w' => e = .returned (.tuple #[.int .i64 (cmpN (numPlus na a sa (!nb) b sb).1 (numPlus na a sa (!nb) b sb).2), .int .i64 0]) ∧ Below w.heap.size w w' := by
  have fa := ha.s31
  have fb := hb.s31
  exact compare_two na a sa nb b sb _ _ (max sa sb) _ w ha hb (numPlus_big na (!nb) ha.u31 hb.u31 fa fb)
    (fun w => numminus_any na a sa nb b sb w ha.big hb.big (by omega) (by omega) (ha.sc (by omega)) (hb.sc (by omega))) rfl
end Go.Proofs.Ytkcogoibaodbeaa
