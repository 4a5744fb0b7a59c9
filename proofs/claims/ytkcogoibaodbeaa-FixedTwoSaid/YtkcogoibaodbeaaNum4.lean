/- number.minus, number.times. -/
import Derived.Test.YtkcogoibaodbeaaNum3
set_option linter.unusedVariables false
set_option linter.unusedSimpArgs false
namespace Go.Proofs.Ytkcogoibaodbeaa
open Go.RowKit
attribute [local irreducible] ncells wcells
set_option maxRecDepth 100000 in
set_option maxHeartbeats 2000000 in
theorem numminus_any (na : Bool) (a sa : Nat) (nb : Bool) (b sb : Nat) (w : World) (ha : a < Big) (hb : b < Big) (hsa : sa < 128) (hsb : sb < 128) (h1 : scU a sa (max sa sb) < Big) (h2 : scU b sb (max sa sb) < Big) :
    Calls Try.prog 60 #[.agg (ncells na a sa), .agg (ncells nb b sb)] w fun e w' => e = .returned (.agg (ncells (numPlus na a sa (!nb) b sb).1 (numPlus na a sa (!nb) b sb).2 (max sa sb : Nat))) ∧ Below w.heap.size w w' := by
  have HA := Lib.hid ha
  have HB := Lib.hid hb
  have H1 := Lib.hid h1
  have H2 := Lib.hid h2
  clear ha hb h1 h2
  have T0 := (((Blk.nil w).lay rfl (ncells na a sa) 46).lay (by simp) (ncells nb b sb) 46).lay (by simp) (ncells false 0 0) 46
  have TD := T0.drew
  go_enter Try.func60, Try.ntmps60
  go_wp2
  go_region_with (first | (go_at_call 85; refine (opposite_any _ _ _ _).mono ?_; rintro e w' ⟨rfl, hbk⟩; have T5 := Blk.kept (by assumption) hbk; clear hbk; have r0 : rowOf _ (w.heap.size) = _ := T5.row 0 _ rfl; have r1 : rowOf _ (w.heap.size + 1) = _ := T5.row 1 _ rfl; have r2 : rowOf _ (w.heap.size + 1 + 1) = _ := T5.row 2 _ rfl; have f2 : freeOf _ (w.heap.size + 1 + 1) = _ := T5.fr 2 rfl) | (go_at_call 65; refine (numplus_any na a sa (!nb) b sb _ HA.out HB.out hsa hsb H1.out H2.out).mono ?_; rintro e w' ⟨rfl, hbk⟩; have T5 := Blk.kept (by assumption) hbk; clear hbk; have r2 : rowOf _ (w.heap.size + 1 + 1) = _ := T5.row 2 _ rfl; have f2 : freeOf _ (w.heap.size + 1 + 1) = _ := T5.fr 2 rfl))
  all_goals (go_wp2; refine ret_row (b := w.heap.size + 1 + 1) (C := ncells (numPlus na a sa (!nb) b sb).1 (numPlus na a sa (!nb) b sb).2 (max sa sb : Nat)) rfl rtNum rfl (by go_simp) (by simp) ⟨rfl, ?_⟩; exact T5.below.putRow (by omega) _ _)
end Go.Proofs.Ytkcogoibaodbeaa
