/- Fits, To. -/
import Derived.Test.YtkcogoibaodbeaaGreatDoorCutF
set_option linter.unusedVariables false
set_option linter.unusedSimpArgs false
namespace Go.Proofs.YtkcogoibaodbeaaGreatDoor
open Go.RowKit
attribute [local irreducible] ncells wcells txt
set_option maxRecDepth 100000 in
set_option maxHeartbeats 1000000 in
theorem fits_yes (na : Bool) (u s d : Nat) (w : World) (ha : Good na u s) (h1 : 1 ≤ d) (h2 : d ≤ 31) (h4 : s ≤ d) (h5 : dl u ≤ d) :
    Calls Tryz.prog 81 #[.string ⟨(txt na u s).toArray⟩, .int .i64 d, .int .i64 s] w fun e w' => e = .returned (.bool true) ∧ Below w.heap.size w w' := by
  have GA := Lib.hid ha
  clear ha
  have t5 : (dl u : Int) ≤ (d : Int) := by omega
  go_enter Tryz.func81, Tryz.ntmps81
  go_wp2_with (first
    | (go_at_call 35; refine (parse_yes _ _ _ _ GA.out).mono ?_; rintro e w1 ⟨rfl, hb⟩; have K1 := (Blk.nil w).kept hb; clear hb; have X1 := (Blk.nil w1).lay rfl (ncells na u s) 45)
    | (go_at_call 79; refine (formed_yes _ _ _ (by omega) (by omega) (by omega) (by omega)).mono ?_; rintro e w2 ⟨rfl, hb⟩; have K2 := (K1.more _).kept hb; have X2 := X1.kept hb; clear hb; have r0 : rowOf _ (w1.heap.size) = _ := X2.row 0 _ rfl; have c9 : World.cell? _ ⟨w1.heap.size, 129, none⟩ = some (.int .i64 s) := X2.scale 0 rfl)
    | (go_at_call 40; refine (size_any _ _ GA.out.big).mono ?_; rintro e w3 ⟨rfl, hb⟩; have K3 := K2.kept hb; clear hb))
  go_ret
  exact ⟨rfl, K3.below⟩
set_option maxRecDepth 100000 in
set_option maxHeartbeats 1000000 in
theorem to_yes (na : Bool) (a sa s d : Nat) (w : World) (ha : Good na a sa) (hc : Good na (scU a sa s) s) (h1 : 1 ≤ d) (h2 : d ≤ 31) (h4 : s ≤ d) (h5 : dl (scU a sa s) ≤ d) :
    Calls Tryz.prog 61 #[.string ⟨(txt na a sa).toArray⟩, .int .i64 d, .int .i64 s] w fun e w' => e = .returned (.tuple #[.string ⟨(txt na (scU a sa s) s).toArray⟩, .int .i64 0]) ∧ Below w.heap.size w w' := by
  have GA := Lib.hid ha
  have GC := Lib.hid hc
  have CT : ∀ w, Calls Tryz.prog 80 #[.string ⟨(txt na a sa).toArray⟩, .int .i64 s] w fun e w' => e = .returned (.tuple #[.string ⟨(txt na (scU a sa s) s).toArray⟩, .int .i64 0]) ∧ Below w.heap.size w w' := fun w => by
    have h := cut_yes na a sa s w ha (by omega)
    rw [show wholeR na (scU a sa s) s = (txt na (scU a sa s) s, 0) from if_pos hc.u31] at h
    exact h
  have CT' := Lib.hid CT
  clear ha hc CT
  go_enter Tryz.func61, Tryz.ntmps61
  go_wp2_with (first
    | (go_at_call 8; refine (valid_yes _ _ _ _ GA.out).mono ?_; rintro e w1 ⟨rfl, hb⟩; have K1 := (Blk.nil w).kept hb; clear hb)
    | (go_at_call 79; refine (formed_yes _ _ _ (by omega) (by omega) (by omega) (by omega)).mono ?_; rintro e w2 ⟨rfl, hb⟩; have K2 := K1.kept hb; clear hb)
    | (go_at_call 80; refine (CT'.out _).mono ?_; rintro e w3 ⟨rfl, hb⟩; have K3 := K2.kept hb; clear hb)
    | (go_at_call 81; refine (fits_yes _ _ _ d _ GC.out h1 h2 h4 h5).mono ?_; rintro e w4 ⟨rfl, hb⟩; have K4 := K3.kept hb; clear hb))
  go_ret2
  exact ⟨rfl, K4.below⟩
end Go.Proofs.YtkcogoibaodbeaaGreatDoor
