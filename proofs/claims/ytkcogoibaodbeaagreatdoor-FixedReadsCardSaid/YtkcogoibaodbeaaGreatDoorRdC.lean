/- FixedReads: Valid, Scale, Digits, Of, Neg, Abs, Trim of package fixed and of the references, for all texts and numbers. FixedReads: the references' Valid, Scale, Digits, Neg, Abs, Trim, Of. FixedReads: Int of package fixed and of the references. -/
import Derived.Test.YtkcogoibaodbeaaGreatDoorAllD
import Derived.Test.YtkcogoibaodbeaaGreatDoorRefM
import Derived.Test.YtkcogoibaodbeaaGreatDoorRem
import Derived.Test.YtkcogoibaodbeaaGreatDoorOf
import Derived.Test.YtkcogoibaodbeaaGreatDoorRefP
set_option linter.unusedVariables false
set_option linter.unusedSimpArgs false
namespace Go.Proofs.YtkcogoibaodbeaaGreatDoor
open Go.RowKit
attribute [local go_sem] ByteArray.mk_append_mk ByteArray.extract_mk
attribute [local irreducible] ncells wcells txt ds dd
def scaleR (l : List UInt8) : Int × Int := if parseB l = true then ((sOf l : Int), 0) else (0, 2)
def digsR (l : List UInt8) : Int × Int := if parseB l = true then ((dl (uOf l) : Int), 0) else (0, 2)
def negR (l : List UInt8) : List UInt8 × Int := if parseB l = true then (txt (!(negOf l)) (uOf l) (sOf l), 0) else ([], 2)
def absR (l : List UInt8) : List UInt8 × Int := if parseB l = true then (txt false (uOf l) (sOf l), 0) else ([], 2)
/-- Zeros left out behind the point. -/
def trimP : Nat → Nat → Nat × Nat
  | u, 0 => (u, 0)
  | u, s + 1 => if u % 10 = 0 then trimP (u / 10) s else (u, s + 1)
def trimR (l : List UInt8) : List UInt8 × Int := if parseB l = true then (txt (negOf l) (trimP (uOf l) (sOf l)).1 (trimP (uOf l) (sOf l)).2, 0) else ([], 2)
def ofR (n s : Int) : List UInt8 × Int := if 0 ≤ s ∧ s ≤ 31 then (txt (decide (n < 0)) n.natAbs s.toNat, 0) else ([], 7)
theorem sgn_of_good {n : Bool} {u s : Nat} (g : Good n u s) : sgn n u = n := by
  unfold sgn
  cases n with
  | false => rfl
  | true => rw [beq_eq_false_iff_ne.2 (g.sign rfl)]; rfl
set_option maxRecDepth 100000 in
set_option maxHeartbeats 2000000 in
theorem scale_clo (n : Bool) (u s : Nat) (w : World) (hu : u < Big) :
    Calls Tryz.prog 38 #[.agg (ncells n u s)] w fun e w' => e = .returned (.int .i64 (s : Int)) ∧ Below w.heap.size w w' := by
  have HU := Lib.hid hu
  have T0 := (Blk.nil w).lay rfl (ncells n u s) 45
  clear hu
  go_enter Tryz.func38, Tryz.ntmps38
  go_wp2
  go_ret
  exact ⟨rfl, T0.below⟩
set_option maxRecDepth 100000 in
set_option maxHeartbeats 2000000 in
theorem scale_fn (n : Bool) (u s : Nat) (w : World) (g : Good n u s) :
    Calls Tryz.prog 37 #[.string ⟨(txt n u s).toArray⟩, .func (.func 38) #[] #[]] w fun e w' => e = .returned (.tuple #[.int .i64 (s : Int), .int .i64 0]) ∧ Below w.heap.size w w' := by
  have G := Lib.hid g
  clear g
  go_enter Tryz.func37, Tryz.ntmps37
  go_wp2_with (first
    | (go_at_call 35; refine (parse_yes _ _ _ _ G.out).mono ?_; rintro e w1 ⟨rfl, hb⟩; have K1 := (Blk.nil w).kept hb; clear hb)
    | (go_at_call 38; refine (scale_clo n u s _ G.out.big).mono ?_; rintro e w2 ⟨rfl, hb⟩; have K2 := (K1.more _).kept hb; clear hb))
  go_ret2
  exact ⟨rfl, K2.below⟩
set_option maxRecDepth 100000 in
set_option maxHeartbeats 2000000 in
theorem digits_clo (n : Bool) (u s : Nat) (w : World) (hu : u < Big) :
    Calls Tryz.prog 39 #[.agg (ncells n u s)] w fun e w' => e = .returned (.int .i64 (dl u : Int)) ∧ Below w.heap.size w w' := by
  have HU := Lib.hid hu
  have T0 := (Blk.nil w).lay rfl (ncells n u s) 45
  clear hu
  go_enter Tryz.func39, Tryz.ntmps39
  go_wp2_with (go_at_call 40; refine (size_any _ _ HU.out).mono ?_; rintro e w2 ⟨rfl, hb⟩; have T1 := T0.kept hb; clear hb)
  go_ret
  exact ⟨rfl, T1.below⟩
set_option maxRecDepth 100000 in
set_option maxHeartbeats 2000000 in
theorem digits_fn (n : Bool) (u s : Nat) (w : World) (g : Good n u s) :
    Calls Tryz.prog 37 #[.string ⟨(txt n u s).toArray⟩, .func (.func 39) #[] #[]] w fun e w' => e = .returned (.tuple #[.int .i64 (dl u : Int), .int .i64 0]) ∧ Below w.heap.size w w' := by
  have G := Lib.hid g
  clear g
  go_enter Tryz.func37, Tryz.ntmps37
  go_wp2_with (first
    | (go_at_call 35; refine (parse_yes _ _ _ _ G.out).mono ?_; rintro e w1 ⟨rfl, hb⟩; have K1 := (Blk.nil w).kept hb; clear hb)
    | (go_at_call 39; refine (digits_clo n u s _ G.out.big).mono ?_; rintro e w2 ⟨rfl, hb⟩; have K2 := (K1.more _).kept hb; clear hb))
  go_ret2
  exact ⟨rfl, K2.below⟩
set_option maxRecDepth 100000 in
set_option maxHeartbeats 2000000 in
theorem asked_no (l : List UInt8) (F : Value) (w : World) (hl : l.length ≤ 500) (h : parseB l = false) :
    Calls Tryz.prog 37 #[.string ⟨l.toArray⟩, F] w fun e w' => e = .returned (.tuple #[.int .i64 0, .int .i64 2]) ∧ Below w.heap.size w w' := by
  have PN := Lib.hid (fun w => parse_no l w hl h)
  clear h hl
  go_enter Tryz.func37, Tryz.ntmps37
  go_wp2_with (go_at_call 35; refine (PN.out _).mono ?_; rintro e w1 ⟨g1, m1, n1, hm1, rfl, hb⟩; have K1 := (Blk.nil w).kept hb; clear hb)
  go_ret2
  exact ⟨rfl, (K1.more _).below⟩
set_option maxRecDepth 100000 in
set_option maxHeartbeats 2000000 in
theorem scale_all (l : List UInt8) (w : World) (hl : l.length ≤ 500) :
    Calls Tryz.prog 10 #[.string ⟨l.toArray⟩] w fun e w' => e = .returned (.tuple #[.int .i64 (scaleR l).1, .int .i64 (scaleR l).2]) ∧ Below w.heap.size w w' := by
  cases h : parseB l with
  | false =>
    rw [show scaleR l = (0, 2) from if_neg (by rw [h]; decide)]
    have TN := Lib.hid (fun F w => asked_no l F w hl h)
    clear hl h
    go_enter Tryz.func10, Tryz.ntmps10
    go_wp2_with (go_at_call 37; refine (TN.out _ _).mono ?_; rintro e w1 ⟨rfl, hb⟩; have K1 := (Blk.nil w).kept hb; clear hb)
    go_ret2
    exact ⟨rfl, K1.below⟩
  | true =>
    obtain ⟨g, e⟩ := parseB_good h
    have TY := fun w => scale_fn _ _ _ w g
    rw [e] at TY
    have TY' := Lib.hid TY
    rw [show scaleR l = _ from if_pos h]
    clear hl h TY g e
    go_enter Tryz.func10, Tryz.ntmps10
    go_wp2_with (go_at_call 37; refine (TY'.out _).mono ?_; rintro e w1 ⟨rfl, hb⟩; have K1 := (Blk.nil w).kept hb; clear hb)
    go_ret2
    exact ⟨rfl, K1.below⟩
set_option maxRecDepth 100000 in
set_option maxHeartbeats 2000000 in
theorem digits_all (l : List UInt8) (w : World) (hl : l.length ≤ 500) :
    Calls Tryz.prog 12 #[.string ⟨l.toArray⟩] w fun e w' => e = .returned (.tuple #[.int .i64 (digsR l).1, .int .i64 (digsR l).2]) ∧ Below w.heap.size w w' := by
  cases h : parseB l with
  | false =>
    rw [show digsR l = (0, 2) from if_neg (by rw [h]; decide)]
    have TN := Lib.hid (fun F w => asked_no l F w hl h)
    clear hl h
    go_enter Tryz.func12, Tryz.ntmps12
    go_wp2_with (go_at_call 37; refine (TN.out _ _).mono ?_; rintro e w1 ⟨rfl, hb⟩; have K1 := (Blk.nil w).kept hb; clear hb)
    go_ret2
    exact ⟨rfl, K1.below⟩
  | true =>
    obtain ⟨g, e⟩ := parseB_good h
    have TY := fun w => digits_fn _ _ _ w g
    rw [e] at TY
    have TY' := Lib.hid TY
    rw [show digsR l = _ from if_pos h]
    clear hl h TY g e
    go_enter Tryz.func12, Tryz.ntmps12
    go_wp2_with (go_at_call 37; refine (TY'.out _).mono ?_; rintro e w1 ⟨rfl, hb⟩; have K1 := (Blk.nil w).kept hb; clear hb)
    go_ret2
    exact ⟨rfl, K1.below⟩
set_option maxRecDepth 100000 in
set_option maxHeartbeats 2000000 in
theorem neg_fn (n : Bool) (u s : Nat) (w : World) (g : Good n u s) :
    Calls Tryz.prog 47 #[.string ⟨(txt n u s).toArray⟩, .func (.func 48) #[] #[]] w fun e w' => e = .returned (.tuple #[.string ⟨(txt (!n) u s).toArray⟩, .int .i64 0]) ∧ Below w.heap.size w w' := by
  have G := Lib.hid g
  have hs := g.s31
  have WH0 := fun w => whole_any (!n) u s w g.big (by omega)
  rw [show wholeR (!n) u s = (txt (!n) u s, 0) from if_pos g.u31] at WH0
  have WH := Lib.hid WH0
  clear g WH0
  go_enter Tryz.func47, Tryz.ntmps47
  go_wp2_with (first
    | (go_at_call 35; refine (parse_yes _ _ _ _ G.out).mono ?_; rintro e w1 ⟨rfl, hb⟩; have K1 := (Blk.nil w).kept hb; clear hb)
    | (go_at_call 48; refine (opposite_any n u s _).mono ?_; rintro e w2 ⟨rfl, hb⟩; have K2 := (K1.more _).kept hb; clear hb)
    | (go_at_call 60; refine (WH.out _).mono ?_; rintro e w3 ⟨rfl, hb⟩; have K3 := K2.kept hb; clear hb))
  go_ret2
  exact ⟨rfl, K3.below⟩
theorem abs_fn (n : Bool) (u s : Nat) (w : World) (g : Good n u s) :
    Calls Tryz.prog 47 #[.string ⟨(txt n u s).toArray⟩, .func (.func 50) #[] #[]] w fun e w' => e = .returned (.tuple #[.string ⟨(txt false u s).toArray⟩, .int .i64 0]) ∧ Below w.heap.size w w' := by
  have h := one_abs n u s w g
  rw [show wholeR false u s = (txt false u s, 0) from if_pos g.u31] at h
  exact h
theorem trimP_le (s : Nat) : ∀ u, (trimP u s).1 ≤ u ∧ (trimP u s).2 ≤ s := by
  induction s with
  | zero => intro u; exact ⟨Nat.le_refl _, Nat.le_refl _⟩
  | succ s ih =>
    intro u
    rw [trimP]
    split
    · have := ih (u / 10)
      have h2 : u / 10 ≤ u := Nat.div_le_self _ _
      exact ⟨by omega, by omega⟩
    · exact ⟨Nat.le_refl _, Nat.le_refl _⟩
set_option maxRecDepth 100000 in
set_option maxHeartbeats 2000000 in
theorem trim_clo (n : Bool) (u s : Nat) (w : World) (hu : u < Big) (hs : s ≤ 31) :
    Calls Tryz.prog 51 #[.agg (ncells n u s)] w fun e w' => e = .returned (.agg (ncells n (trimP u s).1 (trimP u s).2)) ∧ Below w.heap.size w w' := by
  have HU := Lib.hid hu
  have T0 := ((Blk.nil w).lay rfl (ncells n u s) 45).lay (by simp) (ncells false 0 0) 45
  obtain ⟨R, hR⟩ : ∃ R, trimP u s = R := ⟨_, rfl⟩
  rw [hR]
  clear hu
  go_enter Tryz.func51, Tryz.ntmps51
  go_wp2
  go_loopw [] (fun W => ∃ v t : Nat, t ≤ 31 ∧ v < Big ∧ trimP v t = R ∧ Blk w W [ncells n v t, ncells false 0 0]) (fun W => (intOf ((W.cell? ⟨w.heap.size, 129, none⟩).getD undef)).toNat)
  case atStart => exact ⟨u, s, hs, HU.out, hR, T0⟩
  case round =>
    obtain ⟨v, t, ht, hv, hT, T1⟩ := hrel
    clear T0 hR
    have HV := Lib.hid hv
    have c9 : World.cell? _ ⟨w.heap.size, 129, none⟩ = some (.int .i64 t) := T1.scale 0 rfl
    have c1 : World.cell? _ ⟨w.heap.size, 1, none⟩ = some (.int .u8 (dg v 0)) := (T1.cell 0 rfl 1).trans (by rw [ncells_get _ _ _ _ (by omega), if_neg (by omega), if_neg (by omega)])
    have r0 : rowOf _ (w.heap.size) = _ := T1.row 0 _ rfl
    have f0 : freeOf _ (w.heap.size) = _ := T1.fr 0 rfl
    have r1 : rowOf _ (w.heap.size + 1) = _ := T1.row 1 _ rfl
    have f1 : freeOf _ (w.heap.size + 1) = _ := T1.fr 1 rfl
    have hdg : dg v 0 = v % 10 := by unfold dg; rw [Nat.pow_zero, Nat.div_one]
    cases t with
    | zero =>
      have hT' : R = (v, 0) := hT.symm
      clear hT hdg hv
      go_wp2
      refine ret_row (b := w.heap.size + 1) (C := ncells n v 0) rfl rtNum rfl (by go_simp) (by simp) ⟨by first | rfl | (rw [hT']; done) | (rw [hT']; rfl), T1.below.putRow (by omega) _ _⟩
    | succ t =>
      have t0 : (0 : Int) < ((t + 1 : Nat) : Int) := by omega
      have t0' : (0 : Int) < (t : Int) + 1 := by omega
      have e1 : ((t + 1 : Nat) : Int) - 1 = (t : Int) := by omega
      have e1' : (t : Int) + 1 - 1 = (t : Int) := by omega
      have wt : IntKind.i64.wrap (t : Int) = (t : Int) := IntWalk.i64_in _ (by omega)
      rw [trimP] at hT
      by_cases h10 : v % 10 = 0
      · rw [if_pos h10] at hT
        have hz : ((dg v 0 : Nat) : Int) = 0 := by rw [hdg, h10]; rfl
        have hz' : (((dg v 0 : Nat) : Int) == 0) = true := by rw [hz]; rfl
        have hsc : scU v (t + 1) t = v / 10 := by unfold scU; rw [if_pos (by omega), show t + 1 - t = 1 by omega, Nat.pow_one]
        have SC0 := fun w => scaled_any n v (t + 1) t w hv (by omega) (by omega)
        rw [hsc] at SC0
        have SC := Lib.hid SC0
        have hv2 : v / 10 < Big := Nat.lt_of_le_of_lt (Nat.div_le_self _ _) hv
        clear SC0 hsc hdg hv h10
        go_wp2_with (go_at_call 44; refine (SC.out _).mono ?_; rintro e w2 ⟨rfl, hb⟩; have T2 := T1.kept hb; have f2 : freeOf _ (w.heap.size) = _ := T2.fr 0 rfl; have r2 : rowOf _ (w.heap.size) = _ := T2.row 0 _ rfl; clear hb)
        have T3 := T2.put 0 rfl 0 (ncells n (v / 10) t)
        rw [List.set_cons_zero, splice_num] at T3
        have c9' : (w2.putRow w.heap.size 0 (ncells n (v / 10) t)).cell? ⟨w.heap.size, 129, none⟩ = some (.int .i64 t) := T3.scale 0 rfl
        refine ⟨⟨v / 10, t, by omega, hv2, hT, T3⟩, ?_⟩
        rw [c9', c9]
        simp [intOf]
      · rw [if_neg h10] at hT
        have hz' : (((dg v 0 : Nat) : Int) == 0) = false := by rw [hdg, beq_eq_false_iff_ne]; omega
        clear hdg hv h10
        go_wp2
        have hT' : R = (v, t + 1) := hT.symm
        clear hT
        refine ret_row (b := w.heap.size + 1) (C := ncells n v ((t + 1 : Nat) : Int)) rfl rtNum rfl (by go_simp) (by simp) ⟨by first | rfl | rw [hT'], T1.below.putRow (by omega) _ _⟩
set_option maxRecDepth 100000 in
set_option maxHeartbeats 2000000 in
theorem trim_fn (n : Bool) (u s : Nat) (w : World) (g : Good n u s) :
    Calls Tryz.prog 47 #[.string ⟨(txt n u s).toArray⟩, .func (.func 51) #[] #[]] w fun e w' => e = .returned (.tuple #[.string ⟨(txt n (trimP u s).1 (trimP u s).2).toArray⟩, .int .i64 0]) ∧ Below w.heap.size w w' := by
  have G := Lib.hid g
  have hs := g.s31
  obtain ⟨l1, l2⟩ := trimP_le s u
  have h31 : dl (trimP u s).1 ≤ 31 := by
    rw [dl_le_iff _ _ (by decide)]
    exact Nat.lt_of_le_of_lt l1 ((dl_le_iff _ _ (by decide)).1 g.u31)
  have hB : (trimP u s).1 < Big := Nat.lt_of_le_of_lt l1 g.big
  have WH0 := fun w => whole_any n (trimP u s).1 (trimP u s).2 w hB (by omega)
  rw [show wholeR n (trimP u s).1 (trimP u s).2 = (txt n (trimP u s).1 (trimP u s).2, 0) from if_pos h31] at WH0
  have WH := Lib.hid WH0
  have TC := Lib.hid (fun w => trim_clo n u s w g.big hs)
  generalize (trimP u s).1 = v at *
  generalize (trimP u s).2 = t at *
  clear g WH0 l1 l2 h31 hB
  go_enter Tryz.func47, Tryz.ntmps47
  go_wp2_with (first
    | (go_at_call 35; refine (parse_yes _ _ _ _ G.out).mono ?_; rintro e w1 ⟨rfl, hb⟩; have K1 := (Blk.nil w).kept hb; clear hb)
    | (go_at_call 51; refine (TC.out _).mono ?_; rintro e w2 ⟨rfl, hb⟩; have K2 := (K1.more _).kept hb; clear hb)
    | (go_at_call 60; refine (WH.out _).mono ?_; rintro e w3 ⟨rfl, hb⟩; have K3 := K2.kept hb; clear hb))
  go_ret2
  exact ⟨rfl, K3.below⟩
set_option maxRecDepth 100000 in
set_option maxHeartbeats 2000000 in
theorem neg_all (l : List UInt8) (w : World) (hl : l.length ≤ 500) :
    Calls Tryz.prog 18 #[.string ⟨l.toArray⟩] w fun e w' => e = .returned (.tuple #[.string ⟨(negR l).1.toArray⟩, .int .i64 (negR l).2]) ∧ Below w.heap.size w w' := by
  cases h : parseB l with
  | false =>
    rw [show negR l = ([], 2) from if_neg (by rw [h]; decide)]
    have TN := Lib.hid (fun F w => one_no l F w hl h)
    clear hl h
    go_enter Tryz.func18, Tryz.ntmps18
    go_wp2_with (go_at_call 47; refine (TN.out _ _).mono ?_; rintro e w1 ⟨rfl, hb⟩; have K1 := (Blk.nil w).kept hb; clear hb)
    go_ret2
    exact ⟨rfl, K1.below⟩
  | true =>
    obtain ⟨g, e⟩ := parseB_good h
    have TY := fun w => neg_fn _ _ _ w g
    rw [e] at TY
    have TY' := Lib.hid TY
    rw [show negR l = _ from if_pos h]
    clear hl h TY g e
    go_enter Tryz.func18, Tryz.ntmps18
    go_wp2_with (go_at_call 47; refine (TY'.out _).mono ?_; rintro e w1 ⟨rfl, hb⟩; have K1 := (Blk.nil w).kept hb; clear hb)
    go_ret2
    exact ⟨rfl, K1.below⟩
set_option maxRecDepth 100000 in
set_option maxHeartbeats 2000000 in
theorem abs_all (l : List UInt8) (w : World) (hl : l.length ≤ 500) :
    Calls Tryz.prog 20 #[.string ⟨l.toArray⟩] w fun e w' => e = .returned (.tuple #[.string ⟨(absR l).1.toArray⟩, .int .i64 (absR l).2]) ∧ Below w.heap.size w w' := by
  cases h : parseB l with
  | false =>
    rw [show absR l = ([], 2) from if_neg (by rw [h]; decide)]
    have TN := Lib.hid (fun F w => one_no l F w hl h)
    clear hl h
    go_enter Tryz.func20, Tryz.ntmps20
    go_wp2_with (go_at_call 47; refine (TN.out _ _).mono ?_; rintro e w1 ⟨rfl, hb⟩; have K1 := (Blk.nil w).kept hb; clear hb)
    go_ret2
    exact ⟨rfl, K1.below⟩
  | true =>
    obtain ⟨g, e⟩ := parseB_good h
    have TY := fun w => abs_fn _ _ _ w g
    rw [e] at TY
    have TY' := Lib.hid TY
    rw [show absR l = _ from if_pos h]
    clear hl h TY g e
    go_enter Tryz.func20, Tryz.ntmps20
    go_wp2_with (go_at_call 47; refine (TY'.out _).mono ?_; rintro e w1 ⟨rfl, hb⟩; have K1 := (Blk.nil w).kept hb; clear hb)
    go_ret2
    exact ⟨rfl, K1.below⟩
set_option maxRecDepth 100000 in
set_option maxHeartbeats 2000000 in
theorem trim_all (l : List UInt8) (w : World) (hl : l.length ≤ 500) :
    Calls Tryz.prog 22 #[.string ⟨l.toArray⟩] w fun e w' => e = .returned (.tuple #[.string ⟨(trimR l).1.toArray⟩, .int .i64 (trimR l).2]) ∧ Below w.heap.size w w' := by
  cases h : parseB l with
  | false =>
    rw [show trimR l = ([], 2) from if_neg (by rw [h]; decide)]
    have TN := Lib.hid (fun F w => one_no l F w hl h)
    clear hl h
    go_enter Tryz.func22, Tryz.ntmps22
    go_wp2_with (go_at_call 47; refine (TN.out _ _).mono ?_; rintro e w1 ⟨rfl, hb⟩; have K1 := (Blk.nil w).kept hb; clear hb)
    go_ret2
    exact ⟨rfl, K1.below⟩
  | true =>
    obtain ⟨g, e⟩ := parseB_good h
    have TY := fun w => trim_fn _ _ _ w g
    rw [e] at TY
    have TY' := Lib.hid TY
    rw [show trimR l = _ from if_pos h]
    clear hl h TY g e
    go_enter Tryz.func22, Tryz.ntmps22
    go_wp2_with (go_at_call 47; refine (TY'.out _).mono ?_; rintro e w1 ⟨rfl, hb⟩; have K1 := (Blk.nil w).kept hb; clear hb)
    go_ret2
    exact ⟨rfl, K1.below⟩
theorem of_all (v s : Int) (w : World) (h1 : -9223372036854775808 ≤ v) (h2 : v < 9223372036854775808) :
    Calls Tryz.prog 14 #[.int .i64 v, .int .i64 s] w fun e w' => e = .returned (.tuple #[.string ⟨(ofR v s).1.toArray⟩, .int .i64 (ofR v s).2]) ∧ Below w.heap.size w w' := by
  by_cases h : 0 ≤ s ∧ s ≤ 31
  · rw [show ofR v s = _ from if_pos h]
    obtain ⟨S, rfl⟩ : ∃ S : Nat, s = S := ⟨s.toNat, by omega⟩
    rw [Int.toNat_natCast]
    by_cases hv : v < 0
    · have e : v = -((v.natAbs : Nat) : Int) := by omega
      have c := of_neg v.natAbs S w (by omega) (by omega) (by omega)
      rw [← e] at c
      rw [decide_eq_true hv]
      exact c
    · have e : v = ((v.natAbs : Nat) : Int) := by omega
      have c := of_pos v.natAbs S w (by omega) (by omega)
      rw [← e] at c
      rw [decide_eq_false hv]
      exact c
  · rw [show ofR v s = ([], 7) from if_neg h]
    exact of_bad v s w (by omega)
end Go.Proofs.YtkcogoibaodbeaaGreatDoor
namespace Go.Proofs.YtkcogoibaodbeaaGreatDoor
open Go.RowKit
attribute [local go_sem] ByteArray.mk_append_mk ByteArray.extract_mk
attribute [local irreducible] ds dd txt
set_option maxRecDepth 100000 in
set_option maxHeartbeats 2000000 in
theorem rscale_all (l : List UInt8) (w : World) (hl : l.length ≤ 500) :
    Calls Tryz.prog 11 #[.string ⟨l.toArray⟩] w fun e w' => e = .returned (.tuple #[.int .i64 (scaleR l).1, .int .i64 (scaleR l).2]) ∧ Below w.heap.size w w' := by
  cases hp : parseB l with
  | false =>
    rw [show scaleR l = (0, 2) from if_neg (by rw [hp]; decide)]
    have RN := Lib.hid (fun w => read_n w hl hp)
    clear hl hp
    go_enter Tryz.func11, Tryz.ntmps11
    go_wp2_with (go_at_call 36; refine (RN.out _).mono ?_; rintro e w1 ⟨rfl, hb⟩; have K1 := (Blk.nil w).kept hb; clear hb)
    go_ret2
    exact ⟨rfl, (K1.more _).below⟩
  | true =>
    have RY := Lib.hid (fun w => read_y w hl hp)
    obtain ⟨g, _⟩ := parseB_good hp
    have s31 : sOf l ≤ 31 := g.s31
    have u31 : dl (uOf l) ≤ 31 := g.u31
    have hsg := sgn_of_good g
    rw [show scaleR l = _ from if_pos hp]
    generalize negOf l = N at *
    generalize uOf l = U at *
    change Good N U (sOf l) at g
    generalize sOf l = S at *
    clear hl hp g
    go_enter Tryz.func11, Tryz.ntmps11
    go_wp2_with (first
      | (go_at_call 36; refine (RY.out _).mono ?_; rintro e w1 ⟨rfl, hb⟩; have K1 := ((Blk.nil w).kept hb).more (.cells (rcells N U S) 48); clear hb))
    go_ret2
    exact ⟨rfl, K1.below⟩
set_option maxRecDepth 100000 in
set_option maxHeartbeats 2000000 in
theorem rdigits_all (l : List UInt8) (w : World) (hl : l.length ≤ 500) :
    Calls Tryz.prog 13 #[.string ⟨l.toArray⟩] w fun e w' => e = .returned (.tuple #[.int .i64 (digsR l).1, .int .i64 (digsR l).2]) ∧ Below w.heap.size w w' := by
  cases hp : parseB l with
  | false =>
    rw [show digsR l = (0, 2) from if_neg (by rw [hp]; decide)]
    have RN := Lib.hid (fun w => read_n w hl hp)
    clear hl hp
    go_enter Tryz.func13, Tryz.ntmps13
    go_wp2_with (go_at_call 36; refine (RN.out _).mono ?_; rintro e w1 ⟨rfl, hb⟩; have K1 := (Blk.nil w).kept hb; clear hb)
    go_ret2
    exact ⟨rfl, (K1.more _).below⟩
  | true =>
    have RY := Lib.hid (fun w => read_y w hl hp)
    obtain ⟨g, _⟩ := parseB_good hp
    have s31 : sOf l ≤ 31 := g.s31
    have u31 : dl (uOf l) ≤ 31 := g.u31
    have hsg := sgn_of_good g
    rw [show digsR l = _ from if_pos hp]
    generalize negOf l = N at *
    generalize uOf l = U at *
    change Good N U (sOf l) at g
    generalize sOf l = S at *
    have zU := ds_length U
    clear hl hp g
    go_enter Tryz.func13, Tryz.ntmps13
    go_wp2_with (first
      | (go_at_call 36; refine (RY.out _).mono ?_; rintro e w1 ⟨rfl, hb⟩; have K1 := ((Blk.nil w).kept hb).more (.cells (rcells N U S) 48); clear hb))
    go_ret2
    exact ⟨rfl, K1.below⟩
set_option maxRecDepth 100000 in
set_option maxHeartbeats 2000000 in
theorem rvalid_all (l : List UInt8) (w : World) (hl : l.length ≤ 500) :
    Calls Tryz.prog 9 #[.string ⟨l.toArray⟩] w fun e w' => e = .returned (.bool (parseB l)) ∧ Below w.heap.size w w' := by
  cases hp : parseB l with
  | false =>
    skip
    have RN := Lib.hid (fun w => read_n w hl hp)
    clear hl hp
    go_enter Tryz.func9, Tryz.ntmps9
    go_wp2_with (go_at_call 36; refine (RN.out _).mono ?_; rintro e w1 ⟨rfl, hb⟩; have K1 := (Blk.nil w).kept hb; clear hb)
    go_ret
    exact ⟨rfl, (K1.more _).below⟩
  | true =>
    have RY := Lib.hid (fun w => read_y w hl hp)
    obtain ⟨g, _⟩ := parseB_good hp
    have s31 : sOf l ≤ 31 := g.s31
    have u31 : dl (uOf l) ≤ 31 := g.u31
    have hsg := sgn_of_good g
    skip
    generalize negOf l = N at *
    generalize uOf l = U at *
    change Good N U (sOf l) at g
    generalize sOf l = S at *
    clear hl hp g
    go_enter Tryz.func9, Tryz.ntmps9
    go_wp2_with (first
      | (go_at_call 36; refine (RY.out _).mono ?_; rintro e w1 ⟨rfl, hb⟩; have K1 := ((Blk.nil w).kept hb).more (.cells (rcells N U S) 48); clear hb))
    go_ret
    exact ⟨rfl, K1.below⟩
set_option maxRecDepth 100000 in
set_option maxHeartbeats 2000000 in
theorem rneg_all (l : List UInt8) (w : World) (hl : l.length ≤ 500) :
    Calls Tryz.prog 19 #[.string ⟨l.toArray⟩] w fun e w' => e = .returned (.tuple #[.string ⟨(negR l).1.toArray⟩, .int .i64 (negR l).2]) ∧ Below w.heap.size w w' := by
  cases hp : parseB l with
  | false =>
    rw [show negR l = ([], 2) from if_neg (by rw [hp]; decide)]
    have RN := Lib.hid (fun w => read_n w hl hp)
    clear hl hp
    go_enter Tryz.func19, Tryz.ntmps19
    go_wp2_with (go_at_call 36; refine (RN.out _).mono ?_; rintro e w1 ⟨rfl, hb⟩; have K1 := (Blk.nil w).kept hb; clear hb)
    go_ret2
    exact ⟨rfl, (K1.more _).below⟩
  | true =>
    have RY := Lib.hid (fun w => read_y w hl hp)
    obtain ⟨g, _⟩ := parseB_good hp
    have s31 : sOf l ≤ 31 := g.s31
    have u31 : dl (uOf l) ≤ 31 := g.u31
    have hsg := sgn_of_good g
    rw [show negR l = _ from if_pos hp]
    generalize negOf l = N at *
    generalize uOf l = U at *
    change Good N U (sOf l) at g
    generalize sOf l = S at *
    have NE := Lib.hid (fun w => negated_any N U S w (by omega))
    have TX := Lib.hid (fun w => rtext_any (!N) U S w (by omega) (by omega))
    clear hl hp g
    go_enter Tryz.func19, Tryz.ntmps19
    go_wp2_with (first
      | (go_at_call 36; refine (RY.out _).mono ?_; rintro e w1 ⟨rfl, hb⟩; have K1 := ((Blk.nil w).kept hb).more (.cells (rcells N U S) 48); clear hb)
      | (go_at_call 49; refine (NE.out _).mono ?_; rintro e w5 ⟨rfl, hb⟩; have K1 := K1.kept hb; clear hb)
      | (go_at_call 34; refine (TX.out _).mono ?_; rintro e w5 ⟨rfl, hb⟩; have K1 := K1.kept hb; clear hb))
    go_ret2
    exact ⟨rfl, K1.below⟩
set_option maxRecDepth 100000 in
set_option maxHeartbeats 2000000 in
theorem rabs_all (l : List UInt8) (w : World) (hl : l.length ≤ 500) :
    Calls Tryz.prog 21 #[.string ⟨l.toArray⟩] w fun e w' => e = .returned (.tuple #[.string ⟨(absR l).1.toArray⟩, .int .i64 (absR l).2]) ∧ Below w.heap.size w w' := by
  cases hp : parseB l with
  | false =>
    rw [show absR l = ([], 2) from if_neg (by rw [hp]; decide)]
    have RN := Lib.hid (fun w => read_n w hl hp)
    clear hl hp
    go_enter Tryz.func21, Tryz.ntmps21
    go_wp2_with (go_at_call 36; refine (RN.out _).mono ?_; rintro e w1 ⟨rfl, hb⟩; have K1 := (Blk.nil w).kept hb; clear hb)
    go_ret2
    exact ⟨rfl, (K1.more _).below⟩
  | true =>
    have RY := Lib.hid (fun w => read_y w hl hp)
    obtain ⟨g, _⟩ := parseB_good hp
    have s31 : sOf l ≤ 31 := g.s31
    have u31 : dl (uOf l) ≤ 31 := g.u31
    have hsg := sgn_of_good g
    rw [show absR l = _ from if_pos hp]
    generalize negOf l = N at *
    generalize uOf l = U at *
    change Good N U (sOf l) at g
    generalize sOf l = S at *
    have MA := Lib.hid (fun w => made_ds false U S w (by omega))
    have TX := Lib.hid (fun w => rtext_any false U S w (by omega) (by omega))
    clear hl hp g
    go_enter Tryz.func21, Tryz.ntmps21
    go_wp2_with (first
      | (go_at_call 36; refine (RY.out _).mono ?_; rintro e w1 ⟨rfl, hb⟩; have K1 := ((Blk.nil w).kept hb).more (.cells (rcells N U S) 48); clear hb)
      | (go_at_call 42; refine (MA.out _).mono ?_; rintro e w5 ⟨rfl, hb⟩; have K1 := K1.kept hb; clear hb)
      | (go_at_call 34; refine (TX.out _).mono ?_; rintro e w5 ⟨rfl, hb⟩; have K1 := K1.kept hb; clear hb))
    go_ret2
    exact ⟨rfl, K1.below⟩
set_option maxRecDepth 100000 in
set_option maxHeartbeats 2000000 in
theorem digits_loop (N : Nat) (v : Int) (w : World) (hN : N ≤ 9223372036854775808) (hv : (v = (N : Int) ∧ N < 9223372036854775808) ∨ (v = -(N : Int) ∧ 0 < N)) :
    Calls Tryz.prog 43 #[.int .i64 v] w fun e w' => e = .returned (.string ⟨(ds N).toArray⟩) ∧ Below w.heap.size w w' := by
  have HN := Lib.hid (show N < 10 ^ 20 by omega)
  have facts : (¬ v < 0 ∧ IntKind.u64.wrap v = (N : Int)) ∨ (v < 0 ∧ IntKind.u64.wrap v = 18446744073709551616 - (N : Int)) := by
    rcases hv with ⟨rfl, h⟩ | ⟨rfl, h⟩
    · exact Or.inl ⟨by omega, IntWalk.u64_in _ (by omega)⟩
    · exact Or.inr ⟨by omega, by rw [IntKind.wrap_u64]; omega⟩
  have hw2 : IntKind.u64.wrap (-(18446744073709551616 - (N : Int))) = (N : Int) := by
    rcases hv with ⟨rfl, h⟩ | ⟨rfl, h⟩
    · rw [IntKind.wrap_u64]; omega
    · rw [IntKind.wrap_u64]; omega
  have hw3 : IntKind.u64.wrap ((N : Int) - 18446744073709551616) = (N : Int) := by
    rcases hv with ⟨rfl, h⟩ | ⟨rfl, h⟩
    · rw [IntKind.wrap_u64]; omega
    · rw [IntKind.wrap_u64]; omega
  clear hv
  rcases facts with ⟨t1, hw1⟩ | ⟨t1, hw1⟩
  all_goals
    go_enter Tryz.func43, Tryz.ntmps43
    go_wp2
    go_loopw [3, 4] (fun s3 s4 W => ∃ i D : Nat, i ≤ 20 ∧ D = N / 10 ^ i ∧ s3 = .int .u64 (D : Int) ∧ s4 = .string ⟨(dd N i).toArray⟩ ∧ Below w.heap.size w W) (fun s3 _ _ => (intOf s3).toNat)
    case atStart => exact ⟨0, N, by omega, by rw [Nat.pow_zero, Nat.div_one], rfl, by rw [dd_0], Below.refl _ _⟩
    case round =>
      obtain ⟨i, D, hi, hD, rfl, rfl, hB⟩ := hrel
      by_cases hz : D = 0
      · have hlt : N < 10 ^ i := by
          rcases Nat.lt_or_ge N (10 ^ i) with h | h
          · exact h
          · have := Nat.div_pos h (Nat.pow_pos (by decide)); omega
        subst hz
        have BA := Lib.hid (fun w => bare_any N i w hlt (by omega))
        clear hD hlt
        go_wp2_with (go_at_call 72; refine (BA.out _).mono ?_; rintro e w4 ⟨rfl, hw4⟩; obtain rfl := hw4.symm)
        go_ret
        exact ⟨rfl, hB⟩
      · have hp : (0 : Int) < (D : Int) := by omega
        have hDN : D ≤ N := by rw [hD]; exact Nat.div_le_self _ _
        obtain ⟨c, hc⟩ : ∃ c, D % 10 = c := ⟨_, rfl⟩
        obtain ⟨q, hq⟩ : ∃ q, D / 10 = q := ⟨_, rfl⟩
        have hcg : c = dg N i := by rw [← hc, hD]; rfl
        have hqD : q = N / 10 ^ (i + 1) := by rw [← hq, hD, Nat.div_div_eq_div_mul, Nat.pow_succ]
        have hc10 : c < 10 := by omega
        have e1 : (D : Int) % 10 = (c : Int) := by omega
        have e2 : (D : Int) / 10 = (q : Int) := by omega
        have wc : IntKind.u64.wrap (c : Int) = (c : Int) := IntWalk.u64_in _ (by omega)
        have wq : IntKind.u64.wrap (q : Int) = (q : Int) := IntWalk.u64_in _ (by omega)
        have w8 : IntKind.u64.wrap (48 + (c : Int)) = 48 + (c : Int) := IntWalk.u64_in _ (by omega)
        have w9 : IntKind.u8.wrap (48 + (c : Int)) = 48 + (c : Int) := IntWalk.u8_in _ (by omega)
        have w7 : (48 + (c : Int)) % 256 = 48 + (c : Int) := by omega
        have hz := dd_length N i
        have hcv := fun W => conv_one W c hc10
        have hi20 : i < 20 := by
          rcases Nat.lt_or_ge i 20 with h | h
          · exact h
          · have h20 : i = 20 := by omega
            subst h20
            have := Nat.div_eq_of_lt HN.out
            omega
        have HQ := Lib.hid hqD
        clear hD hc hq hqD
        subst hcg
        go_wp2
        exact ⟨⟨i + 1, q, by omega, HQ.out, rfl, by rw [dd_1], hB.alloc hB.size _⟩, by simp [intOf]; omega⟩
set_option maxRecDepth 100000 in
set_option maxHeartbeats 2000000 in
theorem rof_all (v s : Int) (w : World) (h1 : -9223372036854775808 ≤ v) (h2 : v < 9223372036854775808) :
    Calls Tryz.prog 15 #[.int .i64 v, .int .i64 s] w fun e w' => e = .returned (.tuple #[.string ⟨(ofR v s).1.toArray⟩, .int .i64 (ofR v s).2]) ∧ Below w.heap.size w w' := by
  have SC0 := fun w => rscaled_any s w
  by_cases h : 0 ≤ s ∧ s ≤ 31
  · rw [decide_eq_true h] at SC0
    have SC := Lib.hid SC0
    rw [show ofR v s = _ from if_pos h]
    obtain ⟨S, rfl⟩ : ∃ S : Nat, s = S := ⟨s.toNat, by omega⟩
    rw [Int.toNat_natCast]
    have hd : dl v.natAbs ≤ 20 := dl_le_of (by decide) (by omega)
    have DI := Lib.hid (fun w => digits_loop v.natAbs v w (by omega) (by omega))
    have MA := Lib.hid (fun w => made_ds (decide (v < 0)) v.natAbs S w (by omega))
    have TX := Lib.hid (fun w => rtext_any (decide (v < 0)) v.natAbs S w (by omega) (by omega))
    generalize v.natAbs = N at *
    clear SC0 hd h1 h2 h
    go_enter Tryz.func15, Tryz.ntmps15
    go_wp2_with (first
      | (go_at_call 41; refine (SC.out _).mono ?_; rintro e wz ⟨rfl, hwz⟩; obtain rfl := hwz.symm)
      | (go_at_call 43; refine (DI.out _).mono ?_; rintro e w2 ⟨rfl, hb⟩; have K1 := (Blk.nil w).kept hb; clear hb)
      | (go_at_call 42; refine (MA.out _).mono ?_; rintro e w3 ⟨rfl, hb⟩; have K1 := K1.kept hb; clear hb)
      | (go_at_call 34; refine (TX.out _).mono ?_; rintro e w4 ⟨rfl, hb⟩; have K1 := K1.kept hb; clear hb))
    go_ret2
    exact ⟨rfl, K1.below⟩
  · rw [decide_eq_false h] at SC0
    have SC := Lib.hid SC0
    rw [show ofR v s = ([], 7) from if_neg h]
    clear SC0 h1 h2 h
    go_enter Tryz.func15, Tryz.ntmps15
    go_wp2_with (go_at_call 41; refine (SC.out _).mono ?_; rintro e wz ⟨rfl, hwz⟩; obtain rfl := hwz.symm)
    go_ret2
    exact ⟨rfl, Below.refl _ _⟩
theorem scU_tenth (v t : Nat) : scU v (t + 1) t = v / 10 := by unfold scU; rw [if_pos (by omega), show t + 1 - t = 1 by omega, Nat.pow_one]
theorem sgn_tenth {n : Bool} {v : Nat} (h : sgn n v = n) (h10 : v % 10 = 0) : sgn n (v / 10) = n := by
  cases n with
  | false => rfl
  | true =>
    unfold sgn at h ⊢
    have hv : v ≠ 0 := by intro e; subst e; simp at h
    have : v / 10 ≠ 0 := by omega
    rw [beq_eq_false_iff_ne.2 this]; rfl
set_option maxRecDepth 100000 in
set_option maxHeartbeats 2000000 in
theorem rtrim_all (l : List UInt8) (w : World) (hl : l.length ≤ 500) :
    Calls Tryz.prog 23 #[.string ⟨l.toArray⟩] w fun e w' => e = .returned (.tuple #[.string ⟨(trimR l).1.toArray⟩, .int .i64 (trimR l).2]) ∧ Below w.heap.size w w' := by
  cases hp : parseB l with
  | false =>
    rw [show trimR l = ([], 2) from if_neg (by rw [hp]; decide)]
    have RN := Lib.hid (fun w => read_n w hl hp)
    clear hl hp
    go_enter Tryz.func23, Tryz.ntmps23
    go_wp2_with (go_at_call 36; refine (RN.out _).mono ?_; rintro e w1 ⟨rfl, hb⟩; have K1 := (Blk.nil w).kept hb; clear hb)
    go_ret2
    exact ⟨rfl, (K1.more _).below⟩
  | true =>
    have RY := Lib.hid (fun w => read_y w hl hp)
    obtain ⟨g, _⟩ := parseB_good hp
    have s31 : sOf l ≤ 31 := g.s31
    have u31 : dl (uOf l) ≤ 31 := g.u31
    have hsg := sgn_of_good g
    rw [show trimR l = _ from if_pos hp]
    generalize negOf l = N at *
    generalize uOf l = U at *
    change Good N U (sOf l) at g
    generalize sOf l = S at *
    obtain ⟨R, hR⟩ : ∃ R, trimP U S = R := ⟨_, rfl⟩
    rw [hR]
    clear hl hp g
    go_enter Tryz.func23, Tryz.ntmps23
    go_wp2_with (go_at_call 36; refine (RY.out _).mono ?_; rintro e w1 ⟨rfl, hb⟩; have K1 := ((Blk.nil w).kept hb).more (.cells (rcells N U S) 48); have X1 := (Blk.nil w1).lay rfl (rcells N U S) 48; have hw1 := ((Blk.nil w).kept hb).le; clear hb)
    go_loopw [] (fun W => ∃ v t : Nat, t ≤ 31 ∧ dl v ≤ 31 ∧ sgn N v = N ∧ trimP v t = R ∧ Blk w W [] ∧ Blk w1 W [rcells N v t]) (fun W => (intOf ((W.cell? ⟨w1.heap.size, 2, none⟩).getD undef)).toNat)
    case atStart => exact ⟨U, S, s31, u31, hsg, hR, K1, X1⟩
    case round =>
      obtain ⟨v, t, ht, hv, hn, hT, K2, T1⟩ := hrel
      clear K1 X1 hR hsg u31 s31
      have c2 : World.cell? _ ⟨w1.heap.size, 2, none⟩ = some (.int .i64 t) := T1.cell 0 rfl 2
      have c1 : World.cell? _ ⟨w1.heap.size, 1, none⟩ = some (.string ⟨(ds v).toArray⟩) := T1.cell 0 rfl 1
      have r0 : rowOf _ (w1.heap.size) = _ := T1.row 0 _ rfl
      have f0 : freeOf _ (w1.heap.size) = _ := T1.fr 0 rfl
      have hdg : dg v 0 = v % 10 := by unfold dg; rw [Nat.pow_zero, Nat.div_one]
      have AT := Lib.hid (fun w => at_any v 0 w (by omega))
      have TX0 := fun w => rtext_any N v t w (by omega) (by omega)
      rw [hn] at TX0
      have TX := Lib.hid TX0
      clear TX0
      cases t with
      | zero =>
        have hT' : R = (v, 0) := hT.symm
        subst hT'
        clear hT hdg hv
        go_wp2_with (go_at_call 34; refine (TX.out _).mono ?_; rintro e w5 ⟨rfl, hb⟩; have K3 := K2.kept hb; clear hb)
        go_ret2
        exact ⟨rfl, K3.below⟩
      | succ t =>
        have t0' : (0 : Int) < (t : Int) + 1 := by omega
        have e1' : (t : Int) + 1 - 1 = (t : Int) := by omega
        have wt : IntKind.i64.wrap (t : Int) = (t : Int) := IntWalk.i64_in _ (by omega)
        rw [trimP] at hT
        by_cases h10 : v % 10 = 0
        · rw [if_pos h10] at hT
          have AT0 := fun w => at_any v 0 w (by omega)
          rw [hdg, h10] at AT0
          have AT1 := Lib.hid AT0
          have CU0 := fun w => rcut_any N v (t + 1) t w (by omega) (by omega) (by omega)
          rw [scU_tenth, sgn_tenth hn h10] at CU0
          have CU := Lib.hid CU0
          have hv2 : dl (v / 10) ≤ 31 := Nat.le_trans (dl_mono (Nat.div_le_self _ _)) hv
          have hn2 := sgn_tenth hn h10
          clear CU0 hdg hv AT0 h10 TX AT
          go_wp2_with (first
            | (go_at_call 52; refine (AT1.out _).mono ?_; rintro e wz ⟨rfl, hwz⟩; obtain rfl := hwz.symm)
            | (go_at_call 45; refine (CU.out _).mono ?_; rintro e w2 ⟨rfl, hb⟩; have T2 := T1.kept hb; have K3 := K2.kept hb; have f2 : freeOf _ (w1.heap.size) = _ := T2.fr 0 rfl; have r2 : rowOf _ (w1.heap.size) = _ := T2.row 0 _ rfl; clear hb))
          have T3 := T2.put 0 rfl 0 (rcells N (v / 10) t)
          rw [List.set_cons_zero, splice_rr] at T3
          have hk1 := K2.le
          have c9' : (w2.putRow w1.heap.size 0 (rcells N (v / 10) t)).cell? ⟨w1.heap.size, 2, none⟩ = some (.int .i64 t) := T3.cell 0 rfl 2
          refine ⟨⟨v / 10, t, by omega, hv2, hn2, hT, ?_, T3⟩, ?_⟩
          · exact K3.putOther w1.heap.size 0 _ (by simpa using hw1)
          · rw [c9', c2]
            simp [intOf]
        · rw [if_neg h10] at hT
          have AT0 := fun w => at_any v 0 w (by omega)
          rw [hdg] at AT0
          obtain ⟨z, hz⟩ : ∃ z, v % 10 = z := ⟨_, rfl⟩
          rw [hz] at AT0 h10
          have AT1 := Lib.hid AT0
          have hz' : ((z : Int) == 0) = false := by rw [beq_eq_false_iff_ne]; omega
          have hT' : R = (v, t + 1) := hT.symm
          subst hT'
          clear hT hdg hv AT0 h10 AT hz
          go_wp2_with (first
            | (go_at_call 52; refine (AT1.out _).mono ?_; rintro e wz ⟨rfl, hwz⟩; obtain rfl := hwz.symm)
            | (go_at_call 34; refine (TX.out _).mono ?_; rintro e w5 ⟨rfl, hb⟩; have K3 := K2.kept hb; clear hb))
          go_ret2
          exact ⟨rfl, K3.below⟩
end Go.Proofs.YtkcogoibaodbeaaGreatDoor
namespace Go.Proofs.YtkcogoibaodbeaaGreatDoor
open Go.RowKit
attribute [local go_sem] ByteArray.mk_append_mk ByteArray.extract_mk
def mostI (n : Bool) : Nat := if n = true then 9223372036854775808 else 9223372036854775807
def intV (n : Bool) (X : Nat) : Int × Int := if X ≤ mostI n then (if n = true then -(X : Int) else X, 0) else (0, 4)
/-- What Int answers. -/
def intR (l : List UInt8) : Int × Int := if parseB l = true then intV (negOf l) (scU (uOf l) (sOf l) 0) else (0, 2)
theorem int_step (X k : Nat) : X / 10 ^ (k + 1) * 10 + dg X k = X / 10 ^ k := by
  unfold dg
  rw [Nat.pow_succ, ← Nat.div_div_eq_div_mul]
  omega
theorem ds_byte (U p : Nat) (h : p < dl U) (h2 : p < (ByteArray.mk (ds U).toArray).size) : ((ByteArray.mk (ds U).toArray)[p]'h2).toNat = 48 + dg U (dl U - 1 - p) := by
  have e := dd_get U (dl U) (dl U - 1 - p) (by omega)
  rw [show dl U - 1 - (dl U - 1 - p) = p by omega, List.getElem?_eq_some_iff] at e
  obtain ⟨h3, e⟩ := e
  have : (ByteArray.mk (ds U).toArray)[p]'h2 = chr (dg U (dl U - 1 - p)) := e
  rw [this, chr_nat (dg_lt _ _)]
attribute [local irreducible] ncells wcells txt ds dd
set_option maxRecDepth 100000 in
set_option maxHeartbeats 4000000 in
theorem int_true (u s X : Nat) (w : World) (g : Good true u s) (hX : scU u s 0 = X) :
    Calls Tryz.prog 16 #[.string ⟨(txt true u s).toArray⟩] w fun e w' => e = .returned (.tuple #[.int .i64 (intV true X).1, .int .i64 (intV true X).2]) ∧ Below w.heap.size w w' := by
  have G := Lib.hid g
  have s31 := g.s31
  have hXB : X < 10 ^ 62 := by rw [← hX]; exact sc_lt g.u31 (by decide)
  have hXd : dl X ≤ 62 := dl_le_of (by decide) hXB
  have hXb : X < Big := Nat.lt_of_lt_of_le hXB (ten_big (by decide))
  have SC0 : ∀ w, Calls Tryz.prog 44 #[.agg (ncells true u s), .int .i64 0] w fun e w' => e = .returned (.agg (ncells true X 0)) ∧ Below w.heap.size w w' := fun w => by
    have h := scaled_any true u s 0 w g.big (by omega) (by omega)
    rw [hX] at h
    exact h
  have SC := Lib.hid SC0
  have SZ := Lib.hid (fun w => size_any X w hXb)
  have hdl := dl_pos X
  have wd : IntKind.i64.wrap ((dl X : Int) - 1) = (dl X : Int) - 1 := IntWalk.i64_in _ (by omega)
  have hstart : X / 10 ^ dl X = 0 := Nat.div_eq_of_lt (lt_pow_dl X)
  clear SC0 g hX hXB hXb
  go_enter Tryz.func16, Tryz.ntmps16
  go_wp2_with (first
    | (go_at_call 35; refine (parse_yes _ _ _ _ G.out).mono ?_; rintro e w1 ⟨rfl, hb⟩; have K1 := ((Blk.nil w).kept hb).more (.cells (ncells true u s) 45); have hw1 := ((Blk.nil w).kept hb).le; have X1 := (Blk.nil w1).lay rfl (ncells true u s) 45; clear hb)
    | (go_at_call 44; (refine (SC.out _).mono ?_; rintro e w2 ⟨rfl, hb⟩; have K2 := K1.kept hb; have X2 := X1.kept hb; have r2 : rowOf _ (w1.heap.size) = _ := X2.row 0 _ rfl; have f2 : freeOf _ (w1.heap.size) = _ := X2.fr 0 rfl; have X3 := X2.put 0 rfl 0 (ncells true X 0); have K3 := K2.putOther w1.heap.size 0 (ncells true X 0) (by simpa using hw1); simp only [List.nil_append, List.set_cons_zero, splice_num] at X3; clear hb; have X4 : Blk w1 (w2.putRow w1.heap.size 0 (ncells true X 0)) [ncells true X 0] := X3; have c40 : World.cell? (w2.putRow w1.heap.size 0 (ncells true X 0)) ⟨w1.heap.size, 0, none⟩ = some (.bool true) := X4.sgn 0 rfl; have r4 : rowOf (w2.putRow w1.heap.size 0 (ncells true X 0)) (w1.heap.size) = ncells true X 0 := X4.row 0 _ rfl))
    | (go_at_call 40; refine (SZ.out _).mono ?_; rintro e w5 ⟨rfl, hb⟩; have K5 := K3.kept hb; have X5 := X4.kept hb; clear hb))
  go_loopw [7, 8] (fun s7 s8 W => ∃ k q : Nat, k ≤ dl X ∧ q = X / 10 ^ k ∧ q ≤ 9223372036854775808 ∧ s7 = .int .u64 (q : Int) ∧ s8 = .int .i64 ((k : Int) - 1) ∧ Blk w W [] ∧ Blk w1 W [ncells true X 0]) (fun _ s8 _ => (intOf s8 + 1).toNat)
  case atStart => exact ⟨dl X, 0, Nat.le_refl _, hstart.symm, by omega, rfl, rfl, K5, X5⟩
  case round =>
    obtain ⟨k, q, hk, hq, hqM, rfl, rfl, K6, X6⟩ := hrel
    clear K1 X1 K2 X2 X3 K3 X4 r2 f2 c40 r4 K5 X5 hstart
    cases k with
    | zero =>
      have hqX : q = X := by rw [hq, Nat.pow_zero, Nat.div_one]
      subst hqX
      have hres : intV true q = (-(q : Int), 0) := by unfold intV mostI; rw [if_pos (by simpa using hqM)]; rfl
      have ht : ¬ (0 : Int) ≤ ((0 : Nat) : Int) - 1 := by omega
      have c0 : World.cell? _ ⟨w1.heap.size, 0, none⟩ = some (.bool true) := X6.sgn 0 rfl
      have hw3 : wrap64 (IntKind.u64.wrap (-(q : Int))) = -(q : Int) := by rw [IntKind.wrap_u64]; unfold wrap64; omega
      clear hq hqM
      go_wp2
      go_ret2
      exact ⟨by first | rfl | (rw [hw3, hres]; rfl), K6.below⟩
    | succ m =>
      have ht : (0 : Int) ≤ ((m + 1 : Nat) : Int) - 1 := by omega
      have em : ((m + 1 : Nat) : Int) - 1 = (m : Int) := by omega
      have em' : (m : Int) + 1 - 1 = (m : Int) := by omega
      have hm1 : (m : Int) < 128 := by omega
      have hm2 : m < 128 := by omega
      have wm : IntKind.i64.wrap ((m : Int) - 1) = (m : Int) - 1 := IntWalk.i64_in _ (by omega)
      have d1 := dg_lt X m
      have hs := int_step X m
      rw [← hq] at hs
      have c1 : World.cell? _ ⟨w1.heap.size, 1 + m, none⟩ = some (.int .u8 (dg X m)) := (X6.cell 0 rfl (1 + m)).trans (by rw [ncells_get _ _ _ _ (by omega), if_neg (by omega), if_neg (by omega), show 1 + m - 1 = m by omega])
      obtain ⟨d, hd⟩ : ∃ d, dg X m = d := ⟨_, rfl⟩
      rw [hd] at c1 hs d1
      have wd1 : IntKind.u64.wrap (d : Int) = (d : Int) := IntWalk.u64_in _ (by omega)
      have wd2 : IntKind.u64.wrap ((9223372036854775808 : Int) - (d : Int)) = (9223372036854775808 : Int) - (d : Int) := IntWalk.u64_in _ (by omega)
      have wd3 : IntKind.u64.wrap (((9223372036854775808 : Int) - (d : Int)) / 10) = ((9223372036854775808 : Int) - (d : Int)) / 10 := IntWalk.u64_in _ (by omega)
      clear hq hd
      by_cases hbig : ((9223372036854775808 : Int) - (d : Int)) / 10 < (q : Int)
      · have hXM : 9223372036854775808 < X := by
          have h1 : 9223372036854775808 < q * 10 + d := by omega
          have h2 : X / 10 ^ m ≤ X := Nat.div_le_self _ _
          omega
        have hres : intV true X = (0, 4) := by unfold intV mostI; rw [if_neg (by simp; omega)]
        clear hs
        go_wp2
        go_ret2
        exact ⟨by first | rfl | (rw [hres]; rfl), K6.below⟩
      · have wq1 : IntKind.u64.wrap ((q : Int) * 10) = (q : Int) * 10 := IntWalk.u64_in _ (by omega)
        have wq2 : IntKind.u64.wrap ((q : Int) * 10 + (d : Int)) = (q : Int) * 10 + (d : Int) := IntWalk.u64_in _ (by omega)
        have HS := Lib.hid hs
        have hle : q * 10 + d ≤ 9223372036854775808 := by omega
        clear hs
        go_wp2
        exact ⟨⟨m, q * 10 + d, by omega, HS.out, hle, by simp, rfl, K6, X6⟩, by simp [intOf]⟩
set_option maxRecDepth 100000 in
set_option maxHeartbeats 4000000 in
theorem int_false (u s X : Nat) (w : World) (g : Good false u s) (hX : scU u s 0 = X) :
    Calls Tryz.prog 16 #[.string ⟨(txt false u s).toArray⟩] w fun e w' => e = .returned (.tuple #[.int .i64 (intV false X).1, .int .i64 (intV false X).2]) ∧ Below w.heap.size w w' := by
  have G := Lib.hid g
  have s31 := g.s31
  have hXB : X < 10 ^ 62 := by rw [← hX]; exact sc_lt g.u31 (by decide)
  have hXd : dl X ≤ 62 := dl_le_of (by decide) hXB
  have hXb : X < Big := Nat.lt_of_lt_of_le hXB (ten_big (by decide))
  have SC0 : ∀ w, Calls Tryz.prog 44 #[.agg (ncells false u s), .int .i64 0] w fun e w' => e = .returned (.agg (ncells false X 0)) ∧ Below w.heap.size w w' := fun w => by
    have h := scaled_any false u s 0 w g.big (by omega) (by omega)
    rw [hX] at h
    exact h
  have SC := Lib.hid SC0
  have SZ := Lib.hid (fun w => size_any X w hXb)
  have hdl := dl_pos X
  have wd : IntKind.i64.wrap ((dl X : Int) - 1) = (dl X : Int) - 1 := IntWalk.i64_in _ (by omega)
  have hstart : X / 10 ^ dl X = 0 := Nat.div_eq_of_lt (lt_pow_dl X)
  clear SC0 g hX hXB hXb
  go_enter Tryz.func16, Tryz.ntmps16
  go_wp2_with (first
    | (go_at_call 35; refine (parse_yes _ _ _ _ G.out).mono ?_; rintro e w1 ⟨rfl, hb⟩; have K1 := ((Blk.nil w).kept hb).more (.cells (ncells false u s) 45); have hw1 := ((Blk.nil w).kept hb).le; have X1 := (Blk.nil w1).lay rfl (ncells false u s) 45; clear hb)
    | (go_at_call 44; (refine (SC.out _).mono ?_; rintro e w2 ⟨rfl, hb⟩; have K2 := K1.kept hb; have X2 := X1.kept hb; have r2 : rowOf _ (w1.heap.size) = _ := X2.row 0 _ rfl; have f2 : freeOf _ (w1.heap.size) = _ := X2.fr 0 rfl; have X3 := X2.put 0 rfl 0 (ncells false X 0); have K3 := K2.putOther w1.heap.size 0 (ncells false X 0) (by simpa using hw1); simp only [List.nil_append, List.set_cons_zero, splice_num] at X3; clear hb; have X4 : Blk w1 (w2.putRow w1.heap.size 0 (ncells false X 0)) [ncells false X 0] := X3; have c40 : World.cell? (w2.putRow w1.heap.size 0 (ncells false X 0)) ⟨w1.heap.size, 0, none⟩ = some (.bool false) := X4.sgn 0 rfl; have r4 : rowOf (w2.putRow w1.heap.size 0 (ncells false X 0)) (w1.heap.size) = ncells false X 0 := X4.row 0 _ rfl))
    | (go_at_call 40; refine (SZ.out _).mono ?_; rintro e w5 ⟨rfl, hb⟩; have K5 := K3.kept hb; have X5 := X4.kept hb; clear hb))
  go_loopw [7, 8] (fun s7 s8 W => ∃ k q : Nat, k ≤ dl X ∧ q = X / 10 ^ k ∧ q ≤ 9223372036854775807 ∧ s7 = .int .u64 (q : Int) ∧ s8 = .int .i64 ((k : Int) - 1) ∧ Blk w W [] ∧ Blk w1 W [ncells false X 0]) (fun _ s8 _ => (intOf s8 + 1).toNat)
  case atStart => exact ⟨dl X, 0, Nat.le_refl _, hstart.symm, by omega, rfl, rfl, K5, X5⟩
  case round =>
    obtain ⟨k, q, hk, hq, hqM, rfl, rfl, K6, X6⟩ := hrel
    clear K1 X1 K2 X2 X3 K3 X4 r2 f2 c40 r4 K5 X5 hstart
    cases k with
    | zero =>
      have hqX : q = X := by rw [hq, Nat.pow_zero, Nat.div_one]
      subst hqX
      have hres : intV false q = ((q : Int), 0) := by unfold intV mostI; rw [if_pos (by simpa using hqM)]; rfl
      have ht : ¬ (0 : Int) ≤ ((0 : Nat) : Int) - 1 := by omega
      have c0 : World.cell? _ ⟨w1.heap.size, 0, none⟩ = some (.bool false) := X6.sgn 0 rfl
      have hw3 : wrap64 (q : Int) = (q : Int) := by unfold wrap64; omega
      clear hq hqM
      go_wp2
      go_ret2
      exact ⟨by first | rfl | (rw [hw3, hres]; rfl), K6.below⟩
    | succ m =>
      have ht : (0 : Int) ≤ ((m + 1 : Nat) : Int) - 1 := by omega
      have em : ((m + 1 : Nat) : Int) - 1 = (m : Int) := by omega
      have em' : (m : Int) + 1 - 1 = (m : Int) := by omega
      have hm1 : (m : Int) < 128 := by omega
      have hm2 : m < 128 := by omega
      have wm : IntKind.i64.wrap ((m : Int) - 1) = (m : Int) - 1 := IntWalk.i64_in _ (by omega)
      have d1 := dg_lt X m
      have hs := int_step X m
      rw [← hq] at hs
      have c1 : World.cell? _ ⟨w1.heap.size, 1 + m, none⟩ = some (.int .u8 (dg X m)) := (X6.cell 0 rfl (1 + m)).trans (by rw [ncells_get _ _ _ _ (by omega), if_neg (by omega), if_neg (by omega), show 1 + m - 1 = m by omega])
      obtain ⟨d, hd⟩ : ∃ d, dg X m = d := ⟨_, rfl⟩
      rw [hd] at c1 hs d1
      have wd1 : IntKind.u64.wrap (d : Int) = (d : Int) := IntWalk.u64_in _ (by omega)
      have wd2 : IntKind.u64.wrap ((9223372036854775807 : Int) - (d : Int)) = (9223372036854775807 : Int) - (d : Int) := IntWalk.u64_in _ (by omega)
      have wd3 : IntKind.u64.wrap (((9223372036854775807 : Int) - (d : Int)) / 10) = ((9223372036854775807 : Int) - (d : Int)) / 10 := IntWalk.u64_in _ (by omega)
      clear hq hd
      by_cases hbig : ((9223372036854775807 : Int) - (d : Int)) / 10 < (q : Int)
      · have hXM : 9223372036854775807 < X := by
          have h1 : 9223372036854775807 < q * 10 + d := by omega
          have h2 : X / 10 ^ m ≤ X := Nat.div_le_self _ _
          omega
        have hres : intV false X = (0, 4) := by unfold intV mostI; rw [if_neg (by simp; omega)]
        clear hs
        go_wp2
        go_ret2
        exact ⟨by first | rfl | (rw [hres]; rfl), K6.below⟩
      · have wq1 : IntKind.u64.wrap ((q : Int) * 10) = (q : Int) * 10 := IntWalk.u64_in _ (by omega)
        have wq2 : IntKind.u64.wrap ((q : Int) * 10 + (d : Int)) = (q : Int) * 10 + (d : Int) := IntWalk.u64_in _ (by omega)
        have HS := Lib.hid hs
        have hle : q * 10 + d ≤ 9223372036854775807 := by omega
        clear hs
        go_wp2
        exact ⟨⟨m, q * 10 + d, by omega, HS.out, hle, by simp, rfl, K6, X6⟩, by simp [intOf]⟩
set_option maxRecDepth 100000 in
set_option maxHeartbeats 4000000 in
theorem int_no (l : List UInt8) (w : World) (hl : l.length ≤ 500) (h : parseB l = false) :
    Calls Tryz.prog 16 #[.string ⟨l.toArray⟩] w fun e w' => e = .returned (.tuple #[.int .i64 0, .int .i64 2]) ∧ Below w.heap.size w w' := by
  have PN := Lib.hid (fun w => parse_no l w hl h)
  clear h hl
  go_enter Tryz.func16, Tryz.ntmps16
  go_wp2_with (go_at_call 35; refine (PN.out _).mono ?_; rintro e w1 ⟨g1, m1, n1, hm1, rfl, hb⟩; have K1 := (Blk.nil w).kept hb; clear hb)
  go_ret2
  exact ⟨rfl, (K1.more _).below⟩
theorem int_all (l : List UInt8) (w : World) (hl : l.length ≤ 500) :
    Calls Tryz.prog 16 #[.string ⟨l.toArray⟩] w fun e w' => e = .returned (.tuple #[.int .i64 (intR l).1, .int .i64 (intR l).2]) ∧ Below w.heap.size w w' := by
  cases h : parseB l with
  | false =>
    rw [show intR l = (0, 2) from if_neg (by rw [h]; decide)]
    exact int_no l w hl h
  | true =>
    obtain ⟨g, e⟩ := parseB_good h
    rw [show intR l = _ from if_pos h]
    cases hn : negOf l with
    | false => rw [hn] at g e; rw [← e]; rw [e]; have := int_false _ _ _ w g rfl; rw [e] at this; exact this
    | true => rw [hn] at g e; have := int_true _ _ _ w g rfl; rw [e] at this; exact this
theorem intV_sgn (n : Bool) (X : Nat) : intV (sgn n X) X = intV n X := by
  cases n with
  | false => rfl
  | true =>
    unfold sgn
    by_cases h : X = 0
    · subst h; rfl
    · rw [beq_eq_false_iff_ne.2 h]; rfl
theorem most_p : ds 9223372036854775807 = [57, 50, 50, 51, 51, 55, 50, 48, 51, 54, 56, 53, 52, 55, 55, 53, 56, 48, 55] := by kernel_rfl
theorem most_n : ds 9223372036854775808 = [57, 50, 50, 51, 51, 55, 50, 48, 51, 54, 56, 53, 52, 55, 55, 53, 56, 48, 56] := by kernel_rfl
theorem most_dl : dl 9223372036854775807 ≤ 1000 ∧ dl 9223372036854775808 ≤ 1000 := ⟨Nat.le_trans (dl_le_of (k := 19) (by decide) (by decide)) (by decide), Nat.le_trans (dl_le_of (k := 19) (by decide) (by decide)) (by decide)⟩
set_option maxRecDepth 100000 in
set_option maxHeartbeats 4000000 in
theorem rint_true (n : Bool) (u s X : Nat) (w : World) {l : List UInt8} (hl : l.length ≤ 500) (hp : parseB l = true) (hn : negOf l = n) (hu : uOf l = u) (hs : sOf l = s) (hX : scU u s 0 = X) (hb : sgn n X = true) :
    Calls Tryz.prog 17 #[.string ⟨l.toArray⟩] w fun e w' => e = .returned (.tuple #[.int .i64 (intV true X).1, .int .i64 (intV true X).2]) ∧ Below w.heap.size w w' := by
  have RY0 := fun w => read_y w hl hp
  rw [hn, hu, hs] at RY0
  have RY := Lib.hid RY0
  obtain ⟨g, _⟩ := parseB_good hp
  change Good (negOf l) (uOf l) (sOf l) at g
  rw [hn, hu, hs] at g
  have hXd : dl X ≤ 62 := dl_le_of (by decide) (by rw [← hX]; exact sc_lt g.u31 (by decide))
  have s31 := g.s31
  have CU0 := fun w => rcut_any n u s 0 w (by have := g.u31; omega) (by omega) (by omega)
  rw [hX, hb] at CU0
  have CU := Lib.hid CU0
  have LS0 := fun w => less_any 9223372036854775808 X w most_dl.2 (by omega)
  rw [most_n] at LS0
  have zX := ds_length X
  clear CU0 RY0 g hX hb hn hu hs hp hl s31
  by_cases hbig : 9223372036854775808 < X
  · have hres : intV true X = (0, 4) := by unfold intV mostI; rw [if_neg (by simp; omega)]
    rw [decide_eq_true hbig] at LS0
    have LS := Lib.hid LS0
    clear LS0 hbig
    go_enter Tryz.func17, Tryz.ntmps17
    go_wp2_with (first
      | (go_at_call 36; refine (RY.out _).mono ?_; rintro e w1 ⟨rfl, hb⟩; have K1 := ((Blk.nil w).kept hb).more (.cells (rcells n u s) 48); have T1 := (Blk.nil w1).lay rfl (rcells n u s) 48; have hw1 := ((Blk.nil w).kept hb).le; clear hb)
      | (go_at_call 45; refine (CU.out _).mono ?_; rintro e w2 ⟨rfl, hb⟩; have T2 := T1.kept hb; have K2 := K1.kept hb; have f2 : freeOf _ (w1.heap.size) = _ := T2.fr 0 rfl; have r2 : rowOf _ (w1.heap.size) = _ := T2.row 0 _ rfl; have T3 := T2.put 0 rfl 0 (rcells true X 0); simp only [List.nil_append, List.set_cons_zero, splice_rr] at T3; have K3 := K2.putOther w1.heap.size 0 (rcells true X 0) (by simpa using hw1); have c0 : World.cell? (w2.putRow w1.heap.size 0 (rcells true X 0)) ⟨w1.heap.size, 0, none⟩ = some (.bool true) := T3.cell 0 rfl 0; have c1 : World.cell? (w2.putRow w1.heap.size 0 (rcells true X 0)) ⟨w1.heap.size, 1, none⟩ = some (.string ⟨(ds X).toArray⟩) := T3.cell 0 rfl 1; clear hb)
      | (go_at_call 46; refine (LS.out _).mono ?_; rintro e wz ⟨rfl, hwz⟩; obtain rfl := hwz.symm))
    go_ret2
    exact ⟨by first | rfl | (rw [hres]; rfl), K3.below⟩
  · have hres : intV true X = (-(X : Int), 0) := by unfold intV mostI; rw [if_pos (by simp; omega)]; rfl
    rw [decide_eq_false hbig] at LS0
    have LS := Lib.hid LS0
    have hle : X ≤ 9223372036854775808 := by omega
    have hstart : X / 10 ^ dl X = 0 := Nat.div_eq_of_lt (lt_pow_dl X)
    clear LS0 hbig
    go_enter Tryz.func17, Tryz.ntmps17
    go_wp2_with (first
      | (go_at_call 36; refine (RY.out _).mono ?_; rintro e w1 ⟨rfl, hb⟩; have K1 := ((Blk.nil w).kept hb).more (.cells (rcells n u s) 48); have T1 := (Blk.nil w1).lay rfl (rcells n u s) 48; have hw1 := ((Blk.nil w).kept hb).le; clear hb)
      | (go_at_call 45; refine (CU.out _).mono ?_; rintro e w2 ⟨rfl, hb⟩; have T2 := T1.kept hb; have K2 := K1.kept hb; have f2 : freeOf _ (w1.heap.size) = _ := T2.fr 0 rfl; have r2 : rowOf _ (w1.heap.size) = _ := T2.row 0 _ rfl; have T3 := T2.put 0 rfl 0 (rcells true X 0); simp only [List.nil_append, List.set_cons_zero, splice_rr] at T3; have K3 := K2.putOther w1.heap.size 0 (rcells true X 0) (by simpa using hw1); have c0 : World.cell? (w2.putRow w1.heap.size 0 (rcells true X 0)) ⟨w1.heap.size, 0, none⟩ = some (.bool true) := T3.cell 0 rfl 0; have c1 : World.cell? (w2.putRow w1.heap.size 0 (rcells true X 0)) ⟨w1.heap.size, 1, none⟩ = some (.string ⟨(ds X).toArray⟩) := T3.cell 0 rfl 1; clear hb)
      | (go_at_call 46; refine (LS.out _).mono ?_; rintro e wz ⟨rfl, hwz⟩; obtain rfl := hwz.symm))
    go_loopw [7, 27] (fun s7 s27 W => ∃ k i q : Nat, i + k = dl X ∧ q = X / 10 ^ k ∧ q ≤ 9223372036854775808 ∧ s7 = .int .i64 (-(q : Int)) ∧ s27 = .int .i64 (i : Int) ∧ Blk w W [] ∧ Blk w1 W [rcells true X 0]) (fun _ s27 _ => dl X - (intOf s27).toNat)
    case atStart => exact ⟨dl X, 0, 0, by omega, hstart.symm, by omega, rfl, rfl, K3, T3⟩
    case round =>
      obtain ⟨k, i, q, hk, hq, hqM, rfl, rfl, K4, T4⟩ := hrel
      clear K1 T1 K2 T2 r2 f2 c0 c1 T3 K3 hstart
      have d0 : World.cell? _ ⟨w1.heap.size, 0, none⟩ = some (.bool true) := T4.cell 0 rfl 0
      have d1 : World.cell? _ ⟨w1.heap.size, 1, none⟩ = some (.string ⟨(ds X).toArray⟩) := T4.cell 0 rfl 1
      cases k with
      | zero =>
        have hqX : q = X := by rw [hq, Nat.pow_zero, Nat.div_one]
        subst hqX
        have ht : ¬ (i : Int) < (dl q : Int) := by omega
        clear hq hqM hle
        go_wp2
        go_ret2
        exact ⟨by first | rfl | (rw [hres]; rfl), K4.below⟩
      | succ m =>
        have ht : (i : Int) < (dl X : Int) := by omega
        have hi : i < dl X := by omega
        have hsz : i < (ByteArray.mk (ds X).toArray).size := by simpa [ByteArray.size, zX] using hi
        have hby := ds_byte X i hi hsz
        rw [show dl X - 1 - i = m by omega] at hby
        have dlt := dg_lt X m
        have hs := int_step X m
        rw [← hq] at hs
        have hle2 : X / 10 ^ m ≤ X := Nat.div_le_self _ _
        obtain ⟨d, hd⟩ : ∃ d, dg X m = d := ⟨_, rfl⟩
        rw [hd] at hby hs dlt
        have wi : IntKind.i64.wrap ((i : Int) + 1) = (i : Int) + 1 := IntWalk.i64_in _ (by omega)
        have wd1 : ((48 : Int) + (d : Int)) - 48 = (d : Int) := by omega
        have wd2 : IntKind.u8.wrap (d : Int) = (d : Int) := IntWalk.u8_in _ (by omega)
        have wd3 : IntKind.i64.wrap (d : Int) = (d : Int) := IntWalk.i64_in _ (by omega)
        have wq1 : IntKind.i64.wrap (-(q : Int) * 10) = -(q : Int) * 10 := IntWalk.i64_in _ (by omega)
        have wq2 : IntKind.i64.wrap (-(q : Int) * 10 - (d : Int)) = -(q : Int) * 10 - (d : Int) := IntWalk.i64_in _ (by omega)
        have hqm : q * 10 + d ≤ 9223372036854775808 := by omega
        have HS := Lib.hid hs
        clear hs hq hqM hd hle hle2
        go_wp2
        exact ⟨⟨m, i + 1, q * 10 + d, by omega, HS.out, hqm, (by simp <;> omega), rfl, K4, T4⟩, by simp [intOf]; omega⟩
set_option maxRecDepth 100000 in
set_option maxHeartbeats 4000000 in
theorem rint_false (n : Bool) (u s X : Nat) (w : World) {l : List UInt8} (hl : l.length ≤ 500) (hp : parseB l = true) (hn : negOf l = n) (hu : uOf l = u) (hs : sOf l = s) (hX : scU u s 0 = X) (hb : sgn n X = false) :
    Calls Tryz.prog 17 #[.string ⟨l.toArray⟩] w fun e w' => e = .returned (.tuple #[.int .i64 (intV false X).1, .int .i64 (intV false X).2]) ∧ Below w.heap.size w w' := by
  have RY0 := fun w => read_y w hl hp
  rw [hn, hu, hs] at RY0
  have RY := Lib.hid RY0
  obtain ⟨g, _⟩ := parseB_good hp
  change Good (negOf l) (uOf l) (sOf l) at g
  rw [hn, hu, hs] at g
  have hXd : dl X ≤ 62 := dl_le_of (by decide) (by rw [← hX]; exact sc_lt g.u31 (by decide))
  have s31 := g.s31
  have CU0 := fun w => rcut_any n u s 0 w (by have := g.u31; omega) (by omega) (by omega)
  rw [hX, hb] at CU0
  have CU := Lib.hid CU0
  have LS0 := fun w => less_any 9223372036854775807 X w most_dl.1 (by omega)
  rw [most_p] at LS0
  have zX := ds_length X
  clear CU0 RY0 g hX hb hn hu hs hp hl s31
  by_cases hbig : 9223372036854775807 < X
  · have hres : intV false X = (0, 4) := by unfold intV mostI; rw [if_neg (by simp; omega)]
    rw [decide_eq_true hbig] at LS0
    have LS := Lib.hid LS0
    clear LS0 hbig
    go_enter Tryz.func17, Tryz.ntmps17
    go_wp2_with (first
      | (go_at_call 36; refine (RY.out _).mono ?_; rintro e w1 ⟨rfl, hb⟩; have K1 := ((Blk.nil w).kept hb).more (.cells (rcells n u s) 48); have T1 := (Blk.nil w1).lay rfl (rcells n u s) 48; have hw1 := ((Blk.nil w).kept hb).le; clear hb)
      | (go_at_call 45; refine (CU.out _).mono ?_; rintro e w2 ⟨rfl, hb⟩; have T2 := T1.kept hb; have K2 := K1.kept hb; have f2 : freeOf _ (w1.heap.size) = _ := T2.fr 0 rfl; have r2 : rowOf _ (w1.heap.size) = _ := T2.row 0 _ rfl; have T3 := T2.put 0 rfl 0 (rcells false X 0); simp only [List.nil_append, List.set_cons_zero, splice_rr] at T3; have K3 := K2.putOther w1.heap.size 0 (rcells false X 0) (by simpa using hw1); have c0 : World.cell? (w2.putRow w1.heap.size 0 (rcells false X 0)) ⟨w1.heap.size, 0, none⟩ = some (.bool false) := T3.cell 0 rfl 0; have c1 : World.cell? (w2.putRow w1.heap.size 0 (rcells false X 0)) ⟨w1.heap.size, 1, none⟩ = some (.string ⟨(ds X).toArray⟩) := T3.cell 0 rfl 1; clear hb)
      | (go_at_call 46; refine (LS.out _).mono ?_; rintro e wz ⟨rfl, hwz⟩; obtain rfl := hwz.symm))
    go_ret2
    exact ⟨by first | rfl | (rw [hres]; rfl), K3.below⟩
  · have hres : intV false X = ((X : Int), 0) := by unfold intV mostI; rw [if_pos (by simp; omega)]; rfl
    rw [decide_eq_false hbig] at LS0
    have LS := Lib.hid LS0
    have hle : X ≤ 9223372036854775807 := by omega
    have hstart : X / 10 ^ dl X = 0 := Nat.div_eq_of_lt (lt_pow_dl X)
    clear LS0 hbig
    go_enter Tryz.func17, Tryz.ntmps17
    go_wp2_with (first
      | (go_at_call 36; refine (RY.out _).mono ?_; rintro e w1 ⟨rfl, hb⟩; have K1 := ((Blk.nil w).kept hb).more (.cells (rcells n u s) 48); have T1 := (Blk.nil w1).lay rfl (rcells n u s) 48; have hw1 := ((Blk.nil w).kept hb).le; clear hb)
      | (go_at_call 45; refine (CU.out _).mono ?_; rintro e w2 ⟨rfl, hb⟩; have T2 := T1.kept hb; have K2 := K1.kept hb; have f2 : freeOf _ (w1.heap.size) = _ := T2.fr 0 rfl; have r2 : rowOf _ (w1.heap.size) = _ := T2.row 0 _ rfl; have T3 := T2.put 0 rfl 0 (rcells false X 0); simp only [List.nil_append, List.set_cons_zero, splice_rr] at T3; have K3 := K2.putOther w1.heap.size 0 (rcells false X 0) (by simpa using hw1); have c0 : World.cell? (w2.putRow w1.heap.size 0 (rcells false X 0)) ⟨w1.heap.size, 0, none⟩ = some (.bool false) := T3.cell 0 rfl 0; have c1 : World.cell? (w2.putRow w1.heap.size 0 (rcells false X 0)) ⟨w1.heap.size, 1, none⟩ = some (.string ⟨(ds X).toArray⟩) := T3.cell 0 rfl 1; clear hb)
      | (go_at_call 46; refine (LS.out _).mono ?_; rintro e wz ⟨rfl, hwz⟩; obtain rfl := hwz.symm))
    go_loopw [7, 27] (fun s7 s27 W => ∃ k i q : Nat, i + k = dl X ∧ q = X / 10 ^ k ∧ q ≤ 9223372036854775807 ∧ s7 = .int .i64 ((q : Int)) ∧ s27 = .int .i64 (i : Int) ∧ Blk w W [] ∧ Blk w1 W [rcells false X 0]) (fun _ s27 _ => dl X - (intOf s27).toNat)
    case atStart => exact ⟨dl X, 0, 0, by omega, hstart.symm, by omega, rfl, rfl, K3, T3⟩
    case round =>
      obtain ⟨k, i, q, hk, hq, hqM, rfl, rfl, K4, T4⟩ := hrel
      clear K1 T1 K2 T2 r2 f2 c0 c1 T3 K3 hstart
      have d0 : World.cell? _ ⟨w1.heap.size, 0, none⟩ = some (.bool false) := T4.cell 0 rfl 0
      have d1 : World.cell? _ ⟨w1.heap.size, 1, none⟩ = some (.string ⟨(ds X).toArray⟩) := T4.cell 0 rfl 1
      cases k with
      | zero =>
        have hqX : q = X := by rw [hq, Nat.pow_zero, Nat.div_one]
        subst hqX
        have ht : ¬ (i : Int) < (dl q : Int) := by omega
        clear hq hqM hle
        go_wp2
        go_ret2
        exact ⟨by first | rfl | (rw [hres]; rfl), K4.below⟩
      | succ m =>
        have ht : (i : Int) < (dl X : Int) := by omega
        have hi : i < dl X := by omega
        have hsz : i < (ByteArray.mk (ds X).toArray).size := by simpa [ByteArray.size, zX] using hi
        have hby := ds_byte X i hi hsz
        rw [show dl X - 1 - i = m by omega] at hby
        have dlt := dg_lt X m
        have hs := int_step X m
        rw [← hq] at hs
        have hle2 : X / 10 ^ m ≤ X := Nat.div_le_self _ _
        obtain ⟨d, hd⟩ : ∃ d, dg X m = d := ⟨_, rfl⟩
        rw [hd] at hby hs dlt
        have wi : IntKind.i64.wrap ((i : Int) + 1) = (i : Int) + 1 := IntWalk.i64_in _ (by omega)
        have wd1 : ((48 : Int) + (d : Int)) - 48 = (d : Int) := by omega
        have wd2 : IntKind.u8.wrap (d : Int) = (d : Int) := IntWalk.u8_in _ (by omega)
        have wd3 : IntKind.i64.wrap (d : Int) = (d : Int) := IntWalk.i64_in _ (by omega)
        have wq1 : IntKind.i64.wrap ((q : Int) * 10) = (q : Int) * 10 := IntWalk.i64_in _ (by omega)
        have wq2 : IntKind.i64.wrap ((q : Int) * 10 + (d : Int)) = (q : Int) * 10 + (d : Int) := IntWalk.i64_in _ (by omega)
        have hqm : q * 10 + d ≤ 9223372036854775807 := by omega
        have HS := Lib.hid hs
        clear hs hq hqM hd hle hle2
        go_wp2
        exact ⟨⟨m, i + 1, q * 10 + d, by omega, HS.out, hqm, (by simp <;> omega), rfl, K4, T4⟩, by simp [intOf]; omega⟩
set_option maxRecDepth 100000 in
set_option maxHeartbeats 4000000 in
theorem rint_all (l : List UInt8) (w : World) (hl : l.length ≤ 500) :
    Calls Tryz.prog 17 #[.string ⟨l.toArray⟩] w fun e w' => e = .returned (.tuple #[.int .i64 (intR l).1, .int .i64 (intR l).2]) ∧ Below w.heap.size w w' := by
  cases hp : parseB l with
  | false =>
    rw [show intR l = (0, 2) from if_neg (by rw [hp]; decide)]
    have RN := Lib.hid (fun w => read_n w hl hp)
    clear hl hp
    go_enter Tryz.func17, Tryz.ntmps17
    go_wp2_with (go_at_call 36; refine (RN.out _).mono ?_; rintro e w1 ⟨rfl, hb⟩; have K1 := (Blk.nil w).kept hb; clear hb)
    go_ret2
    exact ⟨rfl, (K1.more _).below⟩
  | true =>
    rw [show intR l = _ from if_pos hp, ← intV_sgn]
    cases hb : sgn (negOf l) (scU (uOf l) (sOf l) 0) with
    | false => exact rint_false _ _ _ _ w hl hp rfl rfl rfl rfl hb
    | true => exact rint_true _ _ _ _ w hl hp rfl rfl rfl rfl hb
end Go.Proofs.YtkcogoibaodbeaaGreatDoor
