/- What the functions of package fixed answer to texts that are no decimal's. -/
import Derived.Test.YtkcogoibaodbeaaGreatDoorDivY
import Derived.Test.YtkcogoibaodbeaaGreatDoorTo
import Derived.Test.YtkcogoibaodbeaaGreatDoorCompare
set_option linter.unusedVariables false
set_option linter.unusedSimpArgs false
namespace Go.Proofs.YtkcogoibaodbeaaGreatDoor
open Go.RowKit
attribute [local irreducible] ncells wcells txt
def AnyNum (w : World) (e : Ending) (w' : World) : Prop := ∃ neg m n ok, m < Big ∧ e = .returned (.tuple #[.agg (ncells neg m n), .bool ok]) ∧ Below w.heap.size w w'
theorem parse_some (l : List UInt8) (w : World) (hl : l.length ≤ 500) : Calls Tryz.prog 35 #[.string ⟨l.toArray⟩] w (AnyNum w) :=
  (parse_any l w hl).mono fun e w' ⟨m, hm, _, h2, h3⟩ => ⟨_, m, _, _, hm, h2, h3⟩
set_option maxRecDepth 100000 in
set_option maxHeartbeats 1000000 in
theorem valid_no (l : List UInt8) (w : World) (hl : l.length ≤ 500) (h : parseB l = false) :
    Calls Tryz.prog 8 #[.string ⟨l.toArray⟩] w fun e w' => e = .returned (.bool false) ∧ Below w.heap.size w w' := by
  have PN := Lib.hid (fun w => parse_no l w hl h)
  clear h hl
  go_enter Tryz.func8, Tryz.ntmps8
  go_wp2_with (go_at_call 35; refine (PN.out _).mono ?_; rintro e w1 ⟨g1, m1, n1, hm1, rfl, hb⟩; have K1 := (Blk.nil w).kept hb; clear hb)
  go_ret
  exact ⟨rfl, (K1.more _).below⟩
set_option maxRecDepth 100000 in
set_option maxHeartbeats 1000000 in
theorem one_no (l : List UInt8) (F : Value) (w : World) (hl : l.length ≤ 500) (h : parseB l = false) :
    Calls Tryz.prog 47 #[.string ⟨l.toArray⟩, F] w fun e w' => e = .returned (.tuple #[.string ⟨#[]⟩, .int .i64 2]) ∧ Below w.heap.size w w' := by
  have PN := Lib.hid (fun w => parse_no l w hl h)
  clear h hl
  go_enter Tryz.func47, Tryz.ntmps47
  go_wp2_with (go_at_call 35; refine (PN.out _).mono ?_; rintro e w1 ⟨g1, m1, n1, hm1, rfl, hb⟩; have K1 := (Blk.nil w).kept hb; clear hb)
  go_ret2
  exact ⟨rfl, (K1.more _).below⟩
set_option maxRecDepth 100000 in
set_option maxHeartbeats 1000000 in
theorem fits_no (l : List UInt8) (d s : Int) (w : World) (hl : l.length ≤ 500) (h : parseB l = false) :
    Calls Tryz.prog 81 #[.string ⟨l.toArray⟩, .int .i64 d, .int .i64 s] w fun e w' => e = .returned (.bool false) ∧ Below w.heap.size w w' := by
  have PN := Lib.hid (fun w => parse_no l w hl h)
  clear h hl
  go_enter Tryz.func81, Tryz.ntmps81
  go_wp2_with (go_at_call 35; refine (PN.out _).mono ?_; rintro e w1 ⟨g1, m1, n1, hm1, rfl, hb⟩; have K1 := (Blk.nil w).kept hb; clear hb)
  go_ret
  exact ⟨rfl, (K1.more _).below⟩
set_option maxRecDepth 100000 in
set_option maxHeartbeats 1000000 in
theorem two_no1 (x y : List UInt8) (F : Value) (w : World) (hx : x.length ≤ 500) (hy : y.length ≤ 500) (h : parseB x = false) :
    Calls Tryz.prog 53 #[.string ⟨x.toArray⟩, .string ⟨y.toArray⟩, F] w fun e w' => e = .returned (.tuple #[.string ⟨#[]⟩, .int .i64 2]) ∧ Below w.heap.size w w' := by
  have PX := Lib.hid (fun w => parse_no x w hx h)
  have PY := Lib.hid (fun w => parse_some y w hy)
  clear h
  clear hx hy
  go_enter Tryz.func53, Tryz.ntmps53
  go_wp2_with (first
    | (go_at_call 35; have KK := K1; clear KK; refine (PY.out _).mono ?_; rintro e w2 ⟨g2, m2, n2, ok2, hm2, rfl, hb⟩; have K2 := (K1.more _).kept hb; clear hb)
    | (go_at_call 35; refine (PX.out _).mono ?_; rintro e w1 ⟨g1, m1, n1, hm1, rfl, hb⟩; have K1 := (Blk.nil w).kept hb; clear hb))
  go_ret2
  exact ⟨rfl, (K2.more _).below⟩
set_option maxRecDepth 100000 in
set_option maxHeartbeats 1000000 in
theorem two_no2 (x y : List UInt8) (F : Value) (w : World) (hx : x.length ≤ 500) (hy : y.length ≤ 500) (neg : Bool) (u s : Nat) (hg : Good neg u s) (hxe : txt neg u s = x) (h : parseB y = false) :
    Calls Tryz.prog 53 #[.string ⟨x.toArray⟩, .string ⟨y.toArray⟩, F] w fun e w' => e = .returned (.tuple #[.string ⟨#[]⟩, .int .i64 2]) ∧ Below w.heap.size w w' := by
  have PX := Lib.hid (fun w => by have h := parse_yes neg u s w hg; rw [hxe] at h; exact h)
  have PY := Lib.hid (fun w => parse_no y w hy h)
  clear h hxe hg
  clear hx hy
  go_enter Tryz.func53, Tryz.ntmps53
  go_wp2_with (first
    | (go_at_call 35; have KK := K1; clear KK; refine (PY.out _).mono ?_; rintro e w2 ⟨g2, m2, n2, hm2, rfl, hb⟩; have K2 := (K1.more _).kept hb; clear hb)
    | (go_at_call 35; refine (PX.out _).mono ?_; rintro e w1 ⟨rfl, hb⟩; have K1 := (Blk.nil w).kept hb; clear hb))
  go_ret2
  exact ⟨rfl, (K2.more _).below⟩
set_option maxRecDepth 100000 in
set_option maxHeartbeats 1000000 in
theorem div_no1 (x y : List UInt8) (t : Int) (w : World) (hx : x.length ≤ 500) (hy : y.length ≤ 500) (h : parseB x = false) :
    Calls Tryz.prog 26 #[.string ⟨x.toArray⟩, .string ⟨y.toArray⟩, .int .i64 t] w fun e w' => e = .returned (.tuple #[.string ⟨#[]⟩, .int .i64 2]) ∧ Below w.heap.size w w' := by
  have PX := Lib.hid (fun w => parse_no x w hx h)
  have PY := Lib.hid (fun w => parse_some y w hy)
  clear h
  clear hx hy
  go_enter Tryz.func26, Tryz.ntmps26
  go_wp2_with (first
    | (go_at_call 35; have KK := K1; clear KK; refine (PY.out _).mono ?_; rintro e w2 ⟨g2, m2, n2, ok2, hm2, rfl, hb⟩; have K2 := (K1.more _).kept hb; clear hb)
    | (go_at_call 35; refine (PX.out _).mono ?_; rintro e w1 ⟨g1, m1, n1, hm1, rfl, hb⟩; have K1 := (Blk.nil w).kept hb; clear hb))
  go_ret2
  exact ⟨rfl, (K2.more _).below⟩
set_option maxRecDepth 100000 in
set_option maxHeartbeats 1000000 in
theorem div_no2 (x y : List UInt8) (t : Int) (w : World) (hx : x.length ≤ 500) (hy : y.length ≤ 500) (neg : Bool) (u s : Nat) (hg : Good neg u s) (hxe : txt neg u s = x) (h : parseB y = false) :
    Calls Tryz.prog 26 #[.string ⟨x.toArray⟩, .string ⟨y.toArray⟩, .int .i64 t] w fun e w' => e = .returned (.tuple #[.string ⟨#[]⟩, .int .i64 2]) ∧ Below w.heap.size w w' := by
  have PX := Lib.hid (fun w => by have h := parse_yes neg u s w hg; rw [hxe] at h; exact h)
  have PY := Lib.hid (fun w => parse_no y w hy h)
  clear h hxe hg
  clear hx hy
  go_enter Tryz.func26, Tryz.ntmps26
  go_wp2_with (first
    | (go_at_call 35; have KK := K1; clear KK; refine (PY.out _).mono ?_; rintro e w2 ⟨g2, m2, n2, hm2, rfl, hb⟩; have K2 := (K1.more _).kept hb; clear hb)
    | (go_at_call 35; refine (PX.out _).mono ?_; rintro e w1 ⟨rfl, hb⟩; have K1 := (Blk.nil w).kept hb; clear hb))
  go_ret2
  exact ⟨rfl, (K2.more _).below⟩
end Go.Proofs.YtkcogoibaodbeaaGreatDoor
