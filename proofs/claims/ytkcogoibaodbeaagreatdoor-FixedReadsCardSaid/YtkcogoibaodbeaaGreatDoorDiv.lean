/- Div of two decimals' texts. -/
import Derived.Test.YtkcogoibaodbeaaGreatDoorTwo
import Derived.Test.YtkcogoibaodbeaaGreatDoorOver
import Derived.OrdersHeld
import Derived.Deep.RegionHeld
set_option linter.unusedVariables false
set_option linter.unusedSimpArgs false
namespace Go.Proofs.YtkcogoibaodbeaaGreatDoor
open Go.RowKit
/-- A block of one's own above lo. -/
structure At (lo : Nat) (W : World) (b : Nat) (c : Array Value) : Prop where
  row : rowOf W b = c
  free : freeOf W b = true
  lo : lo ≤ b
  lt : b < W.heap.size
theorem At.kept {lo : Nat} {W W' : World} {b : Nat} {c : Array Value} (T : At lo W b c) (h : Below W.heap.size W W') : At lo W' b c :=
  ⟨((rows_kept h).1 b T.lt).trans T.row, ((rows_kept h).2 b T.lt).trans T.free, T.lo, Nat.lt_of_lt_of_le T.lt h.size⟩
theorem At.more {lo : Nat} {W : World} {b : Nat} {c : Array Value} (T : At lo W b c) (o : Obj) : At lo (W.alloc o) b c := T.kept ((Below.refl _ _).alloc (Nat.le_refl _) _)
theorem At.lay {lo : Nat} (W : World) (c : Array Value) (t : TypeId) (h : lo ≤ W.heap.size) : At lo (W.alloc (.cells c t)) W.heap.size c :=
  ⟨rowOf_alloc_at W _ _ _ rfl, freeOf_alloc_at W _ _ _ rfl, h, by simp⟩
theorem At.put {lo : Nat} {W : World} {b : Nat} {c : Array Value} (T : At lo W b c) (D : Array Value) : At lo (W.putRow b 0 D) b (splice c 0 D) :=
  ⟨by rw [rowOf_putRow_same _ _ _ _ T.free, T.row], by rw [freeOf_putRow]; exact T.free, T.lo, by rw [size_putRow]; exact T.lt⟩
theorem At.other {lo : Nat} {W : World} {b : Nat} {c : Array Value} (T : At lo W b c) (p : Nat) (D : Array Value) (h : b ≠ p) : At lo (W.putRow p 0 D) b c :=
  ⟨by rw [rowOf_putRow_other _ _ _ _ _ h]; exact T.row, by rw [freeOf_putRow]; exact T.free, T.lo, by rw [size_putRow]; exact T.lt⟩
/-- What the division's locals hold. -/
structure DivS (w w1 w2 w4 : World) (A B X Y : Array Value) (W : World) : Prop where
  k : Blk w W []
  a : Blk w1 W [A]
  b : Blk w2 W [B]
  y : Blk w4 W [X, Y]
  c1 : w1.heap.size + 1 ≤ w4.heap.size
  c2 : w2.heap.size + 1 ≤ w4.heap.size
  c0 : w.heap.size ≤ w4.heap.size
section
variable {w w1 w2 w4 W W' : World} {A B X Y : Array Value}
theorem DivS.kept (T : DivS w w1 w2 w4 A B X Y W) (h : Below W.heap.size W W') : DivS w w1 w2 w4 A B X Y W' := ⟨T.k.kept h, T.a.kept h, T.b.kept h, T.y.kept h, T.c1, T.c2, T.c0⟩
theorem DivS.more (T : DivS w w1 w2 w4 A B X Y W) (o : Obj) : DivS w w1 w2 w4 A B X Y (W.alloc o) := T.kept ((Below.refl _ _).alloc (Nat.le_refl _) _)
theorem DivS.put (T : DivS w w1 w2 w4 A B X Y W) (p : Nat) (D : Array Value) (h : w4.heap.size + 2 ≤ p) : DivS w w1 w2 w4 A B X Y (W.putRow p 0 D) := by
  have h1 := T.c1
  have h2 := T.c2
  have h0 := T.c0
  exact ⟨T.k.putOther _ _ _ (by simp; omega), T.a.putOther _ _ _ (by simp; omega), T.b.putOther _ _ _ (by simp; omega), T.y.putOther _ _ _ (by simp; omega), T.c1, T.c2, T.c0⟩
theorem DivS.top (T : DivS w w1 w2 w4 A B X Y W) : w4.heap.size + 2 ≤ W.heap.size := T.y.size
end
attribute [local irreducible] ncells wcells txt
set_option maxRecDepth 100000 in
set_option maxHeartbeats 4000000 in
theorem div_two (na : Bool) (a sa : Nat) (nb : Bool) (b sb t : Nat) (w : World) (ha : Good na a sa) (hb : Good nb b sb) (ht : t ≤ 31) (hb0 : b ≠ 0) (x y S : Nat)
    (hx : x * 10 ^ t < Big) (hy : y * 10 ≤ Big) (hy0 : 0 < y) (hq : x * 10 ^ t / y < Big)
    (AL : ∀ w, Calls Tryz.prog 57 #[.agg (ncells na a sa), .agg (ncells nb b sb)] w fun e w' => e = .returned (.tuple #[.agg (ncells na x S), .agg (ncells nb y S)]) ∧ Below w.heap.size w w') :
    Calls Tryz.prog 26 #[.string ⟨(txt na a sa).toArray⟩, .string ⟨(txt nb b sb).toArray⟩, .int .i64 t] w fun e w' => e = .returned (.tuple #[.string ⟨(wholeR (!(na == nb)) (x * 10 ^ t / y) t).1.toArray⟩, .int .i64 (wholeR (!(na == nb)) (x * 10 ^ t / y) t).2]) ∧ Below w.heap.size w w' := by
  have GA := Lib.hid ha
  have GB := Lib.hid hb
  have z1 : (b == 0) = false := by simpa using hb0
  have HX := Lib.hid hx
  have HY := Lib.hid hy
  have HY0 := Lib.hid hy0
  have HQ := Lib.hid hq
  have AL' := Lib.hid AL
  have t2 : ¬ (t : Int) < 0 := by omega
  have t3 : ¬ (31 : Int) < (t : Int) := by omega
  clear ha hb hb0 hx hy hy0 hq AL
  go_enter Tryz.func26, Tryz.ntmps26
  go_wp2_with (first
    | (go_at_call 35; have XX := X1; clear XX; refine (parse_yes _ _ _ _ GB.out).mono ?_; rintro e w2 ⟨rfl, hb⟩; have K2 := (K1.more _).kept hb; have X2 := X1.kept hb; clear hb; have r0 : rowOf _ (w1.heap.size) = _ := X2.row 0 _ rfl; have l0 : w1.heap.size < w2.heap.size := X2.lt 0 rfl; have n0 := Nat.ne_of_lt l0; have n1 := Ne.symm n0; have q0 : rowOf (w2.alloc (.cells (ncells nb b sb) 45)) (w1.heap.size) = ncells na a sa := (X2.more _).row 0 _ rfl)
    | (go_at_call 35; refine (parse_yes _ _ _ _ GA.out).mono ?_; rintro e w1 ⟨rfl, hb⟩; have K1 := (Blk.nil w).kept hb; clear hb; have X1 := (Blk.nil w1).lay rfl (ncells na a sa) 45)
    | (go_at_call 56; refine (zero_any _ _ GB.out.big).mono ?_; rintro e w3 ⟨rfl, hb⟩; have K3 := (K2.more _).kept hb; have X3 := (X2.more _).kept hb; have Z3 := ((Blk.nil w2).lay rfl (ncells nb b sb) 45).kept hb; clear hb; have p0 : rowOf _ (w1.heap.size) = _ := X3.row 0 _ rfl; have p1 : rowOf _ (w2.heap.size) = _ := Z3.row 0 _ rfl)
    | (go_at_call 57; refine (AL'.out _).mono ?_; rintro e w4 ⟨rfl, hb⟩; have K4 := K3.kept hb; have X4 := X3.kept hb; have Z4 := Z3.kept hb; clear hb; have Y4 := ((Blk.nil w4).lay rfl (ncells na x S) 45).lay (by simp) (ncells nb y S) 45))
  go_cut [14] (fun s14 W => ∃ bq : Nat, s14 = .pointer (some ⟨bq, 0, none⟩) ∧ rowOf W bq = wcells (x * 10 ^ t / y) ∧ DivS w w1 w2 w4 (ncells na a sa) (ncells nb b sb) (ncells na x S) (ncells nb y S) W)
  case first =>
    have e1 := X4.le
    have e2 := Z4.le
    have e0 := K4.le
    simp only [List.length_append, List.length_cons, List.length_nil] at e1 e2 e0
    have D : DivS w w1 w2 w4 (ncells na a sa) (ncells nb b sb) (ncells na x S) (ncells nb y S) _ := ⟨((K4.more _).more _).drew, ((X4.more _).more _).drew, ((Z4.more _).more _).drew, Y4.drew, by omega, by omega, by omega⟩
    refine wp_region_held_drew (S := DivS w w1 w2 w4 (ncells na a sa) (ncells nb b sb) (ncells na x S) (ncells nb y S)) (by kernel_rfl) D (fun hHeld => ?_)
    clear hHeld
    revert D
    generalize ((w4.alloc (.cells (ncells na x S) 45)).alloc (.cells (ncells nb y S) 45)).drew = V
    intro D
    have DT := D.top
    refine wpAnyH_take (i := 0) (v := Value.pointer (some ⟨w4.heap.size, 1, none⟩)) rfl (by kernel_rfl) (by kernel_rfl) (by kernel_rfl) (fun _ _ _ h => h) (Or.inl ⟨by rfl, fun W T => ?_⟩) (by assumption) ?_
    · have q0 : rowOf _ (w4.heap.size) = _ := T.y.row 0 _ rfl; have q1 : rowOf _ (w4.heap.size + 1) = _ := T.y.row 1 _ rfl; go_simp
    try simp only [Act.put, List.setIfInBounds_toArray, List.set_cons_zero, List.set_cons_succ]
    refine wpAnyH_take (i := 1) (v := .agg (wcells x)) rfl (by kernel_rfl) (by kernel_rfl) (by kernel_rfl) (fun _ _ _ h => h) (Or.inl ⟨by rfl, fun W T => ?_⟩) (by assumption) ?_
    · have q0 : rowOf _ (w4.heap.size) = _ := T.y.row 0 _ rfl; have q1 : rowOf _ (w4.heap.size + 1) = _ := T.y.row 1 _ rfl; go_simp
    try simp only [Act.put, List.setIfInBounds_toArray, List.set_cons_zero, List.set_cons_succ]
    refine wpAnyH_take (i := 2) (v := .int .i64 t) rfl (by kernel_rfl) (by kernel_rfl) (by kernel_rfl) (fun _ _ _ h => h) (Or.inl ⟨by rfl, fun W T => ?_⟩) (by assumption) ?_
    · have q0 : rowOf _ (w4.heap.size) = _ := T.y.row 0 _ rfl; have q1 : rowOf _ (w4.heap.size + 1) = _ := T.y.row 1 _ rfl; go_simp
    try simp only [Act.put, List.setIfInBounds_toArray, List.set_cons_zero, List.set_cons_succ]
    refine wpAnyH_take (i := 4) (v := Value.pointer (some ⟨w4.heap.size + 1, 1, none⟩)) rfl (by kernel_rfl) (by kernel_rfl) (by kernel_rfl) (fun _ _ _ h => h) (Or.inl ⟨by rfl, fun W T => ?_⟩) (by assumption) ?_
    · have q0 : rowOf _ (w4.heap.size) = _ := T.y.row 0 _ rfl; have q1 : rowOf _ (w4.heap.size + 1) = _ := T.y.row 1 _ rfl; go_simp
    try simp only [Act.put, List.setIfInBounds_toArray, List.set_cons_zero, List.set_cons_succ]
    refine wpAnyH_take (i := 5) (v := .agg (wcells y)) rfl (by kernel_rfl) (by kernel_rfl) (by kernel_rfl) (fun _ _ _ h => h) (Or.inl ⟨by rfl, fun W T => ?_⟩) (by assumption) ?_
    · have q0 : rowOf _ (w4.heap.size) = _ := T.y.row 0 _ rfl; have q1 : rowOf _ (w4.heap.size + 1) = _ := T.y.row 1 _ rfl; go_simp
    try simp only [Act.put, List.setIfInBounds_toArray, List.set_cons_zero, List.set_cons_succ]
    refine wpAnyH_ready (rs := [3, 10, 11]) (by kernel_rfl) (by simp) ?_
    refine AllReadyH.cons rfl (fun K hK => ?_) (AllReadyH.cons rfl (fun K hK => ?_) (AllReadyH.cons rfl (fun K hK => ?_) (AllReadyH.nil)))
    · skip
      go_simp
      go_at_call 58
      refine (left_any x t _ (by omega)).mono ?_
      rintro e V0 ⟨rfl, hb⟩
      have D := D.kept hb
      clear hb
      have DT := D.top
      go_wp2_with fail
      refine hK.out _ _ D (fun _ => ?_)
      clear hK K
      try simp only [Act.put, List.setIfInBounds_toArray, List.set_cons_zero, List.set_cons_succ]
      refine wpAnyH_ready (rs := [6, 10, 11]) (by kernel_rfl) (by simp) ?_
      refine AllReadyH.cons rfl (fun K hK => ?_) (AllReadyH.cons rfl (fun K hK => ?_) (AllReadyH.cons rfl (fun K hK => ?_) (AllReadyH.nil)))
      · skip
        go_simp
        go_at_call 59
        refine (over_any _ _ _ HX.out HY.out HY0.out).mono ?_
        rintro e V1 ⟨rfl, hb⟩
        have D := D.kept hb
        clear hb
        have DT := D.top
        go_wp2_with fail
        refine hK.out _ _ D (fun _ => ?_)
        clear hK K
        try simp only [Act.put, List.setIfInBounds_toArray, List.set_cons_zero, List.set_cons_succ]
        refine wpAnyH_take (i := 7) (v := .tuple #[.agg (wcells (x * 10 ^ t / y)), .agg (wcells (x * 10 ^ t % y))]) rfl (by kernel_rfl) (by kernel_rfl) (by kernel_rfl) (fun _ _ _ h => h) (Or.inl ⟨by rfl, fun W T => ?_⟩) (by assumption) ?_
        · have q0 : rowOf _ (w4.heap.size) = _ := T.y.row 0 _ rfl; have q1 : rowOf _ (w4.heap.size + 1) = _ := T.y.row 1 _ rfl; go_simp
        try simp only [Act.put, List.setIfInBounds_toArray, List.set_cons_zero, List.set_cons_succ]
        refine wpAnyH_take (i := 8) (v := .agg (wcells (x * 10 ^ t / y))) rfl (by kernel_rfl) (by kernel_rfl) (by kernel_rfl) (fun _ _ _ h => h) (Or.inl ⟨by rfl, fun W T => ?_⟩) (by assumption) ?_
        · have q0 : rowOf _ (w4.heap.size) = _ := T.y.row 0 _ rfl; have q1 : rowOf _ (w4.heap.size + 1) = _ := T.y.row 1 _ rfl; go_simp
        try simp only [Act.put, List.setIfInBounds_toArray, List.set_cons_zero, List.set_cons_succ]
        refine wpAnyH_take (i := 9) (v := .agg (wcells (x * 10 ^ t % y))) rfl (by kernel_rfl) (by kernel_rfl) (by kernel_rfl) (fun _ _ _ h => h) (Or.inl ⟨by rfl, fun W T => ?_⟩) (by assumption) ?_
        · have q0 : rowOf _ (w4.heap.size) = _ := T.y.row 0 _ rfl; have q1 : rowOf _ (w4.heap.size + 1) = _ := T.y.row 1 _ rfl; go_simp
        try simp only [Act.put, List.setIfInBounds_toArray, List.set_cons_zero, List.set_cons_succ]
        refine wpAnyH_ready (rs := [10, 11]) (by kernel_rfl) (by simp) ?_
        refine AllReadyH.cons rfl (fun K hK => ?_) (AllReadyH.cons rfl (fun K hK => ?_) (AllReadyH.nil))
        · skip
          go_simp
          refine hK.out _ _ (D.more _) (fun _ => ?_)
          clear hK K
          try simp only [Act.put, List.setIfInBounds_toArray, List.set_cons_zero, List.set_cons_succ]
          have D := D.more (.cells (wcells 0) 41)
          have A10 := At.lay V1 (wcells 0) 41 DT
          clear DT
          revert D A10
          generalize V1.alloc (.cells (wcells 0) 41) = V2
          intro D A10
          have DT := D.top
          refine wpAnyH_ready (rs := [11]) (by kernel_rfl) (by simp) ?_
          refine AllReadyH.cons rfl (fun K hK => ?_) (AllReadyH.nil)
          · skip
            go_simp
            refine hK.out _ _ (D.more _) (fun _ => ?_)
            clear hK K
            try simp only [Act.put, List.setIfInBounds_toArray, List.set_cons_zero, List.set_cons_succ]
            have D := D.more (.cells (wcells 0) 41)
            have L10 := A10.lt
            have A10 := A10.more (.cells (wcells 0) 41)
            have A11 := At.lay V2 (wcells 0) 41 DT
            clear DT
            revert D A10 A11
            generalize V2.alloc (.cells (wcells 0) 41) = V3
            intro D A10 A11
            have DT := D.top
            have hne : V1.heap.size ≠ V2.heap.size := by omega
            have hne' := Ne.symm hne
            have R10 := A10.row
            have F10 := A10.free
            have O10 := A10.lo
            have R11 := A11.row
            have F11 := A11.free
            have O11 := A11.lo
            refine wpAnyH_ready (rs := [12]) (by kernel_rfl) (by simp) ?_
            refine AllReadyH.cons rfl (fun K hK => ?_) AllReadyH.nil
            go_simp
            have D := D.put V1.heap.size (wcells (x * 10 ^ t / y)) O10
            have A10 := A10.put (wcells (x * 10 ^ t / y))
            have A11 := A11.other V1.heap.size (wcells (x * 10 ^ t / y)) hne'
            refine hK.out _ _ D (fun _ => ?_)
            clear hK K
            try simp only [Act.put, List.setIfInBounds_toArray, List.set_cons_zero, List.set_cons_succ]
            refine wpAnyH_ready (rs := [13]) (by kernel_rfl) (by simp) ?_
            refine AllReadyH.cons rfl (fun K hK => ?_) AllReadyH.nil
            go_simp
            have D := D.put V2.heap.size (wcells (x * 10 ^ t % y)) O11
            have A10 := A10.other V2.heap.size (wcells (x * 10 ^ t % y)) hne
            refine hK.out _ _ D (fun _ => ?_)
            clear hK K
            refine wpAnyH_done (by kernel_rfl) ?_ _
            go_wp2_with fail
            go_meet
            exact ⟨V1.heap.size, rfl, by have h := A10.row; rw [splice_wide] at h; exact h, D⟩
        · skip
          go_simp
          refine hK.out _ _ (D.more _) (fun _ => ?_)
          clear hK K
          try simp only [Act.put, List.setIfInBounds_toArray, List.set_cons_zero, List.set_cons_succ]
          have D := D.more (.cells (wcells 0) 41)
          have A11 := At.lay V1 (wcells 0) 41 DT
          clear DT
          revert D A11
          generalize V1.alloc (.cells (wcells 0) 41) = V4
          intro D A11
          have DT := D.top
          refine wpAnyH_ready (rs := [10]) (by kernel_rfl) (by simp) ?_
          refine AllReadyH.cons rfl (fun K hK => ?_) (AllReadyH.nil)
          · skip
            go_simp
            refine hK.out _ _ (D.more _) (fun _ => ?_)
            clear hK K
            try simp only [Act.put, List.setIfInBounds_toArray, List.set_cons_zero, List.set_cons_succ]
            have D := D.more (.cells (wcells 0) 41)
            have L11 := A11.lt
            have A11 := A11.more (.cells (wcells 0) 41)
            have A10 := At.lay V4 (wcells 0) 41 DT
            clear DT
            revert D A11 A10
            generalize V4.alloc (.cells (wcells 0) 41) = V5
            intro D A11 A10
            have DT := D.top
            have hne : V4.heap.size ≠ V1.heap.size := by omega
            have hne' := Ne.symm hne
            have R10 := A10.row
            have F10 := A10.free
            have O10 := A10.lo
            have R11 := A11.row
            have F11 := A11.free
            have O11 := A11.lo
            refine wpAnyH_ready (rs := [12]) (by kernel_rfl) (by simp) ?_
            refine AllReadyH.cons rfl (fun K hK => ?_) AllReadyH.nil
            go_simp
            have D := D.put V4.heap.size (wcells (x * 10 ^ t / y)) O10
            have A10 := A10.put (wcells (x * 10 ^ t / y))
            have A11 := A11.other V4.heap.size (wcells (x * 10 ^ t / y)) hne'
            refine hK.out _ _ D (fun _ => ?_)
            clear hK K
            try simp only [Act.put, List.setIfInBounds_toArray, List.set_cons_zero, List.set_cons_succ]
            refine wpAnyH_ready (rs := [13]) (by kernel_rfl) (by simp) ?_
            refine AllReadyH.cons rfl (fun K hK => ?_) AllReadyH.nil
            go_simp
            have D := D.put V1.heap.size (wcells (x * 10 ^ t % y)) O11
            have A10 := A10.other V1.heap.size (wcells (x * 10 ^ t % y)) hne
            refine hK.out _ _ D (fun _ => ?_)
            clear hK K
            refine wpAnyH_done (by kernel_rfl) ?_ _
            go_wp2_with fail
            go_meet
            exact ⟨V4.heap.size, rfl, by have h := A10.row; rw [splice_wide] at h; exact h, D⟩
      · skip
        go_simp
        refine hK.out _ _ (D.more _) (fun _ => ?_)
        clear hK K
        try simp only [Act.put, List.setIfInBounds_toArray, List.set_cons_zero, List.set_cons_succ]
        have D := D.more (.cells (wcells 0) 41)
        have A10 := At.lay V0 (wcells 0) 41 DT
        clear DT
        revert D A10
        generalize V0.alloc (.cells (wcells 0) 41) = V6
        intro D A10
        have DT := D.top
        refine wpAnyH_ready (rs := [6, 11]) (by kernel_rfl) (by simp) ?_
        refine AllReadyH.cons rfl (fun K hK => ?_) (AllReadyH.cons rfl (fun K hK => ?_) (AllReadyH.nil))
        · skip
          go_simp
          go_at_call 59
          refine (over_any _ _ _ HX.out HY.out HY0.out).mono ?_
          rintro e V7 ⟨rfl, hb⟩
          have D := D.kept hb
          have A10 := A10.kept hb
          clear hb
          have DT := D.top
          go_wp2_with fail
          refine hK.out _ _ D (fun _ => ?_)
          clear hK K
          try simp only [Act.put, List.setIfInBounds_toArray, List.set_cons_zero, List.set_cons_succ]
          refine wpAnyH_take (i := 7) (v := .tuple #[.agg (wcells (x * 10 ^ t / y)), .agg (wcells (x * 10 ^ t % y))]) rfl (by kernel_rfl) (by kernel_rfl) (by kernel_rfl) (fun _ _ _ h => h) (Or.inl ⟨by rfl, fun W T => ?_⟩) (by assumption) ?_
          · have q0 : rowOf _ (w4.heap.size) = _ := T.y.row 0 _ rfl; have q1 : rowOf _ (w4.heap.size + 1) = _ := T.y.row 1 _ rfl; go_simp
          try simp only [Act.put, List.setIfInBounds_toArray, List.set_cons_zero, List.set_cons_succ]
          refine wpAnyH_take (i := 8) (v := .agg (wcells (x * 10 ^ t / y))) rfl (by kernel_rfl) (by kernel_rfl) (by kernel_rfl) (fun _ _ _ h => h) (Or.inl ⟨by rfl, fun W T => ?_⟩) (by assumption) ?_
          · have q0 : rowOf _ (w4.heap.size) = _ := T.y.row 0 _ rfl; have q1 : rowOf _ (w4.heap.size + 1) = _ := T.y.row 1 _ rfl; go_simp
          try simp only [Act.put, List.setIfInBounds_toArray, List.set_cons_zero, List.set_cons_succ]
          refine wpAnyH_take (i := 9) (v := .agg (wcells (x * 10 ^ t % y))) rfl (by kernel_rfl) (by kernel_rfl) (by kernel_rfl) (fun _ _ _ h => h) (Or.inl ⟨by rfl, fun W T => ?_⟩) (by assumption) ?_
          · have q0 : rowOf _ (w4.heap.size) = _ := T.y.row 0 _ rfl; have q1 : rowOf _ (w4.heap.size + 1) = _ := T.y.row 1 _ rfl; go_simp
          try simp only [Act.put, List.setIfInBounds_toArray, List.set_cons_zero, List.set_cons_succ]
          refine wpAnyH_ready (rs := [11]) (by kernel_rfl) (by simp) ?_
          refine AllReadyH.cons rfl (fun K hK => ?_) (AllReadyH.nil)
          · skip
            go_simp
            refine hK.out _ _ (D.more _) (fun _ => ?_)
            clear hK K
            try simp only [Act.put, List.setIfInBounds_toArray, List.set_cons_zero, List.set_cons_succ]
            have D := D.more (.cells (wcells 0) 41)
            have L10 := A10.lt
            have A10 := A10.more (.cells (wcells 0) 41)
            have A11 := At.lay V7 (wcells 0) 41 DT
            clear DT
            revert D A10 A11
            generalize V7.alloc (.cells (wcells 0) 41) = V8
            intro D A10 A11
            have DT := D.top
            have hne : V0.heap.size ≠ V7.heap.size := by omega
            have hne' := Ne.symm hne
            have R10 := A10.row
            have F10 := A10.free
            have O10 := A10.lo
            have R11 := A11.row
            have F11 := A11.free
            have O11 := A11.lo
            refine wpAnyH_ready (rs := [12]) (by kernel_rfl) (by simp) ?_
            refine AllReadyH.cons rfl (fun K hK => ?_) AllReadyH.nil
            go_simp
            have D := D.put V0.heap.size (wcells (x * 10 ^ t / y)) O10
            have A10 := A10.put (wcells (x * 10 ^ t / y))
            have A11 := A11.other V0.heap.size (wcells (x * 10 ^ t / y)) hne'
            refine hK.out _ _ D (fun _ => ?_)
            clear hK K
            try simp only [Act.put, List.setIfInBounds_toArray, List.set_cons_zero, List.set_cons_succ]
            refine wpAnyH_ready (rs := [13]) (by kernel_rfl) (by simp) ?_
            refine AllReadyH.cons rfl (fun K hK => ?_) AllReadyH.nil
            go_simp
            have D := D.put V7.heap.size (wcells (x * 10 ^ t % y)) O11
            have A10 := A10.other V7.heap.size (wcells (x * 10 ^ t % y)) hne
            refine hK.out _ _ D (fun _ => ?_)
            clear hK K
            refine wpAnyH_done (by kernel_rfl) ?_ _
            go_wp2_with fail
            go_meet
            exact ⟨V0.heap.size, rfl, by have h := A10.row; rw [splice_wide] at h; exact h, D⟩
        · skip
          go_simp
          refine hK.out _ _ (D.more _) (fun _ => ?_)
          clear hK K
          try simp only [Act.put, List.setIfInBounds_toArray, List.set_cons_zero, List.set_cons_succ]
          have D := D.more (.cells (wcells 0) 41)
          have L10 := A10.lt
          have A10 := A10.more (.cells (wcells 0) 41)
          have A11 := At.lay V6 (wcells 0) 41 DT
          clear DT
          revert D A10 A11
          generalize V6.alloc (.cells (wcells 0) 41) = V9
          intro D A10 A11
          have DT := D.top
          refine wpAnyH_ready (rs := [6]) (by kernel_rfl) (by simp) ?_
          refine AllReadyH.cons rfl (fun K hK => ?_) (AllReadyH.nil)
          · skip
            go_simp
            go_at_call 59
            refine (over_any _ _ _ HX.out HY.out HY0.out).mono ?_
            rintro e V10 ⟨rfl, hb⟩
            have D := D.kept hb
            have A10 := A10.kept hb
            have A11 := A11.kept hb
            clear hb
            have DT := D.top
            go_wp2_with fail
            refine hK.out _ _ D (fun _ => ?_)
            clear hK K
            try simp only [Act.put, List.setIfInBounds_toArray, List.set_cons_zero, List.set_cons_succ]
            refine wpAnyH_take (i := 7) (v := .tuple #[.agg (wcells (x * 10 ^ t / y)), .agg (wcells (x * 10 ^ t % y))]) rfl (by kernel_rfl) (by kernel_rfl) (by kernel_rfl) (fun _ _ _ h => h) (Or.inl ⟨by rfl, fun W T => ?_⟩) (by assumption) ?_
            · have q0 : rowOf _ (w4.heap.size) = _ := T.y.row 0 _ rfl; have q1 : rowOf _ (w4.heap.size + 1) = _ := T.y.row 1 _ rfl; go_simp
            try simp only [Act.put, List.setIfInBounds_toArray, List.set_cons_zero, List.set_cons_succ]
            refine wpAnyH_take (i := 8) (v := .agg (wcells (x * 10 ^ t / y))) rfl (by kernel_rfl) (by kernel_rfl) (by kernel_rfl) (fun _ _ _ h => h) (Or.inl ⟨by rfl, fun W T => ?_⟩) (by assumption) ?_
            · have q0 : rowOf _ (w4.heap.size) = _ := T.y.row 0 _ rfl; have q1 : rowOf _ (w4.heap.size + 1) = _ := T.y.row 1 _ rfl; go_simp
            try simp only [Act.put, List.setIfInBounds_toArray, List.set_cons_zero, List.set_cons_succ]
            refine wpAnyH_take (i := 9) (v := .agg (wcells (x * 10 ^ t % y))) rfl (by kernel_rfl) (by kernel_rfl) (by kernel_rfl) (fun _ _ _ h => h) (Or.inl ⟨by rfl, fun W T => ?_⟩) (by assumption) ?_
            · have q0 : rowOf _ (w4.heap.size) = _ := T.y.row 0 _ rfl; have q1 : rowOf _ (w4.heap.size + 1) = _ := T.y.row 1 _ rfl; go_simp
            try simp only [Act.put, List.setIfInBounds_toArray, List.set_cons_zero, List.set_cons_succ]
            have hne : V0.heap.size ≠ V6.heap.size := by omega
            have hne' := Ne.symm hne
            have R10 := A10.row
            have F10 := A10.free
            have O10 := A10.lo
            have R11 := A11.row
            have F11 := A11.free
            have O11 := A11.lo
            refine wpAnyH_ready (rs := [12]) (by kernel_rfl) (by simp) ?_
            refine AllReadyH.cons rfl (fun K hK => ?_) AllReadyH.nil
            go_simp
            have D := D.put V0.heap.size (wcells (x * 10 ^ t / y)) O10
            have A10 := A10.put (wcells (x * 10 ^ t / y))
            have A11 := A11.other V0.heap.size (wcells (x * 10 ^ t / y)) hne'
            refine hK.out _ _ D (fun _ => ?_)
            clear hK K
            try simp only [Act.put, List.setIfInBounds_toArray, List.set_cons_zero, List.set_cons_succ]
            refine wpAnyH_ready (rs := [13]) (by kernel_rfl) (by simp) ?_
            refine AllReadyH.cons rfl (fun K hK => ?_) AllReadyH.nil
            go_simp
            have D := D.put V6.heap.size (wcells (x * 10 ^ t % y)) O11
            have A10 := A10.other V6.heap.size (wcells (x * 10 ^ t % y)) hne
            refine hK.out _ _ D (fun _ => ?_)
            clear hK K
            refine wpAnyH_done (by kernel_rfl) ?_ _
            go_wp2_with fail
            go_meet
            exact ⟨V0.heap.size, rfl, by have h := A10.row; rw [splice_wide] at h; exact h, D⟩
      · skip
        go_simp
        refine hK.out _ _ (D.more _) (fun _ => ?_)
        clear hK K
        try simp only [Act.put, List.setIfInBounds_toArray, List.set_cons_zero, List.set_cons_succ]
        have D := D.more (.cells (wcells 0) 41)
        have A11 := At.lay V0 (wcells 0) 41 DT
        clear DT
        revert D A11
        generalize V0.alloc (.cells (wcells 0) 41) = V11
        intro D A11
        have DT := D.top
        refine wpAnyH_ready (rs := [6, 10]) (by kernel_rfl) (by simp) ?_
        refine AllReadyH.cons rfl (fun K hK => ?_) (AllReadyH.cons rfl (fun K hK => ?_) (AllReadyH.nil))
        · skip
          go_simp
          go_at_call 59
          refine (over_any _ _ _ HX.out HY.out HY0.out).mono ?_
          rintro e V12 ⟨rfl, hb⟩
          have D := D.kept hb
          have A11 := A11.kept hb
          clear hb
          have DT := D.top
          go_wp2_with fail
          refine hK.out _ _ D (fun _ => ?_)
          clear hK K
          try simp only [Act.put, List.setIfInBounds_toArray, List.set_cons_zero, List.set_cons_succ]
          refine wpAnyH_take (i := 7) (v := .tuple #[.agg (wcells (x * 10 ^ t / y)), .agg (wcells (x * 10 ^ t % y))]) rfl (by kernel_rfl) (by kernel_rfl) (by kernel_rfl) (fun _ _ _ h => h) (Or.inl ⟨by rfl, fun W T => ?_⟩) (by assumption) ?_
          · have q0 : rowOf _ (w4.heap.size) = _ := T.y.row 0 _ rfl; have q1 : rowOf _ (w4.heap.size + 1) = _ := T.y.row 1 _ rfl; go_simp
          try simp only [Act.put, List.setIfInBounds_toArray, List.set_cons_zero, List.set_cons_succ]
          refine wpAnyH_take (i := 8) (v := .agg (wcells (x * 10 ^ t / y))) rfl (by kernel_rfl) (by kernel_rfl) (by kernel_rfl) (fun _ _ _ h => h) (Or.inl ⟨by rfl, fun W T => ?_⟩) (by assumption) ?_
          · have q0 : rowOf _ (w4.heap.size) = _ := T.y.row 0 _ rfl; have q1 : rowOf _ (w4.heap.size + 1) = _ := T.y.row 1 _ rfl; go_simp
          try simp only [Act.put, List.setIfInBounds_toArray, List.set_cons_zero, List.set_cons_succ]
          refine wpAnyH_take (i := 9) (v := .agg (wcells (x * 10 ^ t % y))) rfl (by kernel_rfl) (by kernel_rfl) (by kernel_rfl) (fun _ _ _ h => h) (Or.inl ⟨by rfl, fun W T => ?_⟩) (by assumption) ?_
          · have q0 : rowOf _ (w4.heap.size) = _ := T.y.row 0 _ rfl; have q1 : rowOf _ (w4.heap.size + 1) = _ := T.y.row 1 _ rfl; go_simp
          try simp only [Act.put, List.setIfInBounds_toArray, List.set_cons_zero, List.set_cons_succ]
          refine wpAnyH_ready (rs := [10]) (by kernel_rfl) (by simp) ?_
          refine AllReadyH.cons rfl (fun K hK => ?_) (AllReadyH.nil)
          · skip
            go_simp
            refine hK.out _ _ (D.more _) (fun _ => ?_)
            clear hK K
            try simp only [Act.put, List.setIfInBounds_toArray, List.set_cons_zero, List.set_cons_succ]
            have D := D.more (.cells (wcells 0) 41)
            have L11 := A11.lt
            have A11 := A11.more (.cells (wcells 0) 41)
            have A10 := At.lay V12 (wcells 0) 41 DT
            clear DT
            revert D A11 A10
            generalize V12.alloc (.cells (wcells 0) 41) = V13
            intro D A11 A10
            have DT := D.top
            have hne : V12.heap.size ≠ V0.heap.size := by omega
            have hne' := Ne.symm hne
            have R10 := A10.row
            have F10 := A10.free
            have O10 := A10.lo
            have R11 := A11.row
            have F11 := A11.free
            have O11 := A11.lo
            refine wpAnyH_ready (rs := [12]) (by kernel_rfl) (by simp) ?_
            refine AllReadyH.cons rfl (fun K hK => ?_) AllReadyH.nil
            go_simp
            have D := D.put V12.heap.size (wcells (x * 10 ^ t / y)) O10
            have A10 := A10.put (wcells (x * 10 ^ t / y))
            have A11 := A11.other V12.heap.size (wcells (x * 10 ^ t / y)) hne'
            refine hK.out _ _ D (fun _ => ?_)
            clear hK K
            try simp only [Act.put, List.setIfInBounds_toArray, List.set_cons_zero, List.set_cons_succ]
            refine wpAnyH_ready (rs := [13]) (by kernel_rfl) (by simp) ?_
            refine AllReadyH.cons rfl (fun K hK => ?_) AllReadyH.nil
            go_simp
            have D := D.put V0.heap.size (wcells (x * 10 ^ t % y)) O11
            have A10 := A10.other V0.heap.size (wcells (x * 10 ^ t % y)) hne
            refine hK.out _ _ D (fun _ => ?_)
            clear hK K
            refine wpAnyH_done (by kernel_rfl) ?_ _
            go_wp2_with fail
            go_meet
            exact ⟨V12.heap.size, rfl, by have h := A10.row; rw [splice_wide] at h; exact h, D⟩
        · skip
          go_simp
          refine hK.out _ _ (D.more _) (fun _ => ?_)
          clear hK K
          try simp only [Act.put, List.setIfInBounds_toArray, List.set_cons_zero, List.set_cons_succ]
          have D := D.more (.cells (wcells 0) 41)
          have L11 := A11.lt
          have A11 := A11.more (.cells (wcells 0) 41)
          have A10 := At.lay V11 (wcells 0) 41 DT
          clear DT
          revert D A11 A10
          generalize V11.alloc (.cells (wcells 0) 41) = V14
          intro D A11 A10
          have DT := D.top
          refine wpAnyH_ready (rs := [6]) (by kernel_rfl) (by simp) ?_
          refine AllReadyH.cons rfl (fun K hK => ?_) (AllReadyH.nil)
          · skip
            go_simp
            go_at_call 59
            refine (over_any _ _ _ HX.out HY.out HY0.out).mono ?_
            rintro e V15 ⟨rfl, hb⟩
            have D := D.kept hb
            have A11 := A11.kept hb
            have A10 := A10.kept hb
            clear hb
            have DT := D.top
            go_wp2_with fail
            refine hK.out _ _ D (fun _ => ?_)
            clear hK K
            try simp only [Act.put, List.setIfInBounds_toArray, List.set_cons_zero, List.set_cons_succ]
            refine wpAnyH_take (i := 7) (v := .tuple #[.agg (wcells (x * 10 ^ t / y)), .agg (wcells (x * 10 ^ t % y))]) rfl (by kernel_rfl) (by kernel_rfl) (by kernel_rfl) (fun _ _ _ h => h) (Or.inl ⟨by rfl, fun W T => ?_⟩) (by assumption) ?_
            · have q0 : rowOf _ (w4.heap.size) = _ := T.y.row 0 _ rfl; have q1 : rowOf _ (w4.heap.size + 1) = _ := T.y.row 1 _ rfl; go_simp
            try simp only [Act.put, List.setIfInBounds_toArray, List.set_cons_zero, List.set_cons_succ]
            refine wpAnyH_take (i := 8) (v := .agg (wcells (x * 10 ^ t / y))) rfl (by kernel_rfl) (by kernel_rfl) (by kernel_rfl) (fun _ _ _ h => h) (Or.inl ⟨by rfl, fun W T => ?_⟩) (by assumption) ?_
            · have q0 : rowOf _ (w4.heap.size) = _ := T.y.row 0 _ rfl; have q1 : rowOf _ (w4.heap.size + 1) = _ := T.y.row 1 _ rfl; go_simp
            try simp only [Act.put, List.setIfInBounds_toArray, List.set_cons_zero, List.set_cons_succ]
            refine wpAnyH_take (i := 9) (v := .agg (wcells (x * 10 ^ t % y))) rfl (by kernel_rfl) (by kernel_rfl) (by kernel_rfl) (fun _ _ _ h => h) (Or.inl ⟨by rfl, fun W T => ?_⟩) (by assumption) ?_
            · have q0 : rowOf _ (w4.heap.size) = _ := T.y.row 0 _ rfl; have q1 : rowOf _ (w4.heap.size + 1) = _ := T.y.row 1 _ rfl; go_simp
            try simp only [Act.put, List.setIfInBounds_toArray, List.set_cons_zero, List.set_cons_succ]
            have hne : V11.heap.size ≠ V0.heap.size := by omega
            have hne' := Ne.symm hne
            have R10 := A10.row
            have F10 := A10.free
            have O10 := A10.lo
            have R11 := A11.row
            have F11 := A11.free
            have O11 := A11.lo
            refine wpAnyH_ready (rs := [12]) (by kernel_rfl) (by simp) ?_
            refine AllReadyH.cons rfl (fun K hK => ?_) AllReadyH.nil
            go_simp
            have D := D.put V11.heap.size (wcells (x * 10 ^ t / y)) O10
            have A10 := A10.put (wcells (x * 10 ^ t / y))
            have A11 := A11.other V11.heap.size (wcells (x * 10 ^ t / y)) hne'
            refine hK.out _ _ D (fun _ => ?_)
            clear hK K
            try simp only [Act.put, List.setIfInBounds_toArray, List.set_cons_zero, List.set_cons_succ]
            refine wpAnyH_ready (rs := [13]) (by kernel_rfl) (by simp) ?_
            refine AllReadyH.cons rfl (fun K hK => ?_) AllReadyH.nil
            go_simp
            have D := D.put V0.heap.size (wcells (x * 10 ^ t % y)) O11
            have A10 := A10.other V0.heap.size (wcells (x * 10 ^ t % y)) hne
            refine hK.out _ _ D (fun _ => ?_)
            clear hK K
            refine wpAnyH_done (by kernel_rfl) ?_ _
            go_wp2_with fail
            go_meet
            exact ⟨V11.heap.size, rfl, by have h := A10.row; rw [splice_wide] at h; exact h, D⟩
    · skip
      go_simp
      refine hK.out _ _ (D.more _) (fun _ => ?_)
      clear hK K
      try simp only [Act.put, List.setIfInBounds_toArray, List.set_cons_zero, List.set_cons_succ]
      have D := D.more (.cells (wcells 0) 41)
      have A10 := At.lay V (wcells 0) 41 DT
      clear DT
      revert D A10
      generalize V.alloc (.cells (wcells 0) 41) = V16
      intro D A10
      have DT := D.top
      refine wpAnyH_ready (rs := [3, 11]) (by kernel_rfl) (by simp) ?_
      refine AllReadyH.cons rfl (fun K hK => ?_) (AllReadyH.cons rfl (fun K hK => ?_) (AllReadyH.nil))
      · skip
        go_simp
        go_at_call 58
        refine (left_any x t _ (by omega)).mono ?_
        rintro e V17 ⟨rfl, hb⟩
        have D := D.kept hb
        have A10 := A10.kept hb
        clear hb
        have DT := D.top
        go_wp2_with fail
        refine hK.out _ _ D (fun _ => ?_)
        clear hK K
        try simp only [Act.put, List.setIfInBounds_toArray, List.set_cons_zero, List.set_cons_succ]
        refine wpAnyH_ready (rs := [6, 11]) (by kernel_rfl) (by simp) ?_
        refine AllReadyH.cons rfl (fun K hK => ?_) (AllReadyH.cons rfl (fun K hK => ?_) (AllReadyH.nil))
        · skip
          go_simp
          go_at_call 59
          refine (over_any _ _ _ HX.out HY.out HY0.out).mono ?_
          rintro e V18 ⟨rfl, hb⟩
          have D := D.kept hb
          have A10 := A10.kept hb
          clear hb
          have DT := D.top
          go_wp2_with fail
          refine hK.out _ _ D (fun _ => ?_)
          clear hK K
          try simp only [Act.put, List.setIfInBounds_toArray, List.set_cons_zero, List.set_cons_succ]
          refine wpAnyH_take (i := 7) (v := .tuple #[.agg (wcells (x * 10 ^ t / y)), .agg (wcells (x * 10 ^ t % y))]) rfl (by kernel_rfl) (by kernel_rfl) (by kernel_rfl) (fun _ _ _ h => h) (Or.inl ⟨by rfl, fun W T => ?_⟩) (by assumption) ?_
          · have q0 : rowOf _ (w4.heap.size) = _ := T.y.row 0 _ rfl; have q1 : rowOf _ (w4.heap.size + 1) = _ := T.y.row 1 _ rfl; go_simp
          try simp only [Act.put, List.setIfInBounds_toArray, List.set_cons_zero, List.set_cons_succ]
          refine wpAnyH_take (i := 8) (v := .agg (wcells (x * 10 ^ t / y))) rfl (by kernel_rfl) (by kernel_rfl) (by kernel_rfl) (fun _ _ _ h => h) (Or.inl ⟨by rfl, fun W T => ?_⟩) (by assumption) ?_
          · have q0 : rowOf _ (w4.heap.size) = _ := T.y.row 0 _ rfl; have q1 : rowOf _ (w4.heap.size + 1) = _ := T.y.row 1 _ rfl; go_simp
          try simp only [Act.put, List.setIfInBounds_toArray, List.set_cons_zero, List.set_cons_succ]
          refine wpAnyH_take (i := 9) (v := .agg (wcells (x * 10 ^ t % y))) rfl (by kernel_rfl) (by kernel_rfl) (by kernel_rfl) (fun _ _ _ h => h) (Or.inl ⟨by rfl, fun W T => ?_⟩) (by assumption) ?_
          · have q0 : rowOf _ (w4.heap.size) = _ := T.y.row 0 _ rfl; have q1 : rowOf _ (w4.heap.size + 1) = _ := T.y.row 1 _ rfl; go_simp
          try simp only [Act.put, List.setIfInBounds_toArray, List.set_cons_zero, List.set_cons_succ]
          refine wpAnyH_ready (rs := [11]) (by kernel_rfl) (by simp) ?_
          refine AllReadyH.cons rfl (fun K hK => ?_) (AllReadyH.nil)
          · skip
            go_simp
            refine hK.out _ _ (D.more _) (fun _ => ?_)
            clear hK K
            try simp only [Act.put, List.setIfInBounds_toArray, List.set_cons_zero, List.set_cons_succ]
            have D := D.more (.cells (wcells 0) 41)
            have L10 := A10.lt
            have A10 := A10.more (.cells (wcells 0) 41)
            have A11 := At.lay V18 (wcells 0) 41 DT
            clear DT
            revert D A10 A11
            generalize V18.alloc (.cells (wcells 0) 41) = V19
            intro D A10 A11
            have DT := D.top
            have hne : V.heap.size ≠ V18.heap.size := by omega
            have hne' := Ne.symm hne
            have R10 := A10.row
            have F10 := A10.free
            have O10 := A10.lo
            have R11 := A11.row
            have F11 := A11.free
            have O11 := A11.lo
            refine wpAnyH_ready (rs := [12]) (by kernel_rfl) (by simp) ?_
            refine AllReadyH.cons rfl (fun K hK => ?_) AllReadyH.nil
            go_simp
            have D := D.put V.heap.size (wcells (x * 10 ^ t / y)) O10
            have A10 := A10.put (wcells (x * 10 ^ t / y))
            have A11 := A11.other V.heap.size (wcells (x * 10 ^ t / y)) hne'
            refine hK.out _ _ D (fun _ => ?_)
            clear hK K
            try simp only [Act.put, List.setIfInBounds_toArray, List.set_cons_zero, List.set_cons_succ]
            refine wpAnyH_ready (rs := [13]) (by kernel_rfl) (by simp) ?_
            refine AllReadyH.cons rfl (fun K hK => ?_) AllReadyH.nil
            go_simp
            have D := D.put V18.heap.size (wcells (x * 10 ^ t % y)) O11
            have A10 := A10.other V18.heap.size (wcells (x * 10 ^ t % y)) hne
            refine hK.out _ _ D (fun _ => ?_)
            clear hK K
            refine wpAnyH_done (by kernel_rfl) ?_ _
            go_wp2_with fail
            go_meet
            exact ⟨V.heap.size, rfl, by have h := A10.row; rw [splice_wide] at h; exact h, D⟩
        · skip
          go_simp
          refine hK.out _ _ (D.more _) (fun _ => ?_)
          clear hK K
          try simp only [Act.put, List.setIfInBounds_toArray, List.set_cons_zero, List.set_cons_succ]
          have D := D.more (.cells (wcells 0) 41)
          have L10 := A10.lt
          have A10 := A10.more (.cells (wcells 0) 41)
          have A11 := At.lay V17 (wcells 0) 41 DT
          clear DT
          revert D A10 A11
          generalize V17.alloc (.cells (wcells 0) 41) = V20
          intro D A10 A11
          have DT := D.top
          refine wpAnyH_ready (rs := [6]) (by kernel_rfl) (by simp) ?_
          refine AllReadyH.cons rfl (fun K hK => ?_) (AllReadyH.nil)
          · skip
            go_simp
            go_at_call 59
            refine (over_any _ _ _ HX.out HY.out HY0.out).mono ?_
            rintro e V21 ⟨rfl, hb⟩
            have D := D.kept hb
            have A10 := A10.kept hb
            have A11 := A11.kept hb
            clear hb
            have DT := D.top
            go_wp2_with fail
            refine hK.out _ _ D (fun _ => ?_)
            clear hK K
            try simp only [Act.put, List.setIfInBounds_toArray, List.set_cons_zero, List.set_cons_succ]
            refine wpAnyH_take (i := 7) (v := .tuple #[.agg (wcells (x * 10 ^ t / y)), .agg (wcells (x * 10 ^ t % y))]) rfl (by kernel_rfl) (by kernel_rfl) (by kernel_rfl) (fun _ _ _ h => h) (Or.inl ⟨by rfl, fun W T => ?_⟩) (by assumption) ?_
            · have q0 : rowOf _ (w4.heap.size) = _ := T.y.row 0 _ rfl; have q1 : rowOf _ (w4.heap.size + 1) = _ := T.y.row 1 _ rfl; go_simp
            try simp only [Act.put, List.setIfInBounds_toArray, List.set_cons_zero, List.set_cons_succ]
            refine wpAnyH_take (i := 8) (v := .agg (wcells (x * 10 ^ t / y))) rfl (by kernel_rfl) (by kernel_rfl) (by kernel_rfl) (fun _ _ _ h => h) (Or.inl ⟨by rfl, fun W T => ?_⟩) (by assumption) ?_
            · have q0 : rowOf _ (w4.heap.size) = _ := T.y.row 0 _ rfl; have q1 : rowOf _ (w4.heap.size + 1) = _ := T.y.row 1 _ rfl; go_simp
            try simp only [Act.put, List.setIfInBounds_toArray, List.set_cons_zero, List.set_cons_succ]
            refine wpAnyH_take (i := 9) (v := .agg (wcells (x * 10 ^ t % y))) rfl (by kernel_rfl) (by kernel_rfl) (by kernel_rfl) (fun _ _ _ h => h) (Or.inl ⟨by rfl, fun W T => ?_⟩) (by assumption) ?_
            · have q0 : rowOf _ (w4.heap.size) = _ := T.y.row 0 _ rfl; have q1 : rowOf _ (w4.heap.size + 1) = _ := T.y.row 1 _ rfl; go_simp
            try simp only [Act.put, List.setIfInBounds_toArray, List.set_cons_zero, List.set_cons_succ]
            have hne : V.heap.size ≠ V17.heap.size := by omega
            have hne' := Ne.symm hne
            have R10 := A10.row
            have F10 := A10.free
            have O10 := A10.lo
            have R11 := A11.row
            have F11 := A11.free
            have O11 := A11.lo
            refine wpAnyH_ready (rs := [12]) (by kernel_rfl) (by simp) ?_
            refine AllReadyH.cons rfl (fun K hK => ?_) AllReadyH.nil
            go_simp
            have D := D.put V.heap.size (wcells (x * 10 ^ t / y)) O10
            have A10 := A10.put (wcells (x * 10 ^ t / y))
            have A11 := A11.other V.heap.size (wcells (x * 10 ^ t / y)) hne'
            refine hK.out _ _ D (fun _ => ?_)
            clear hK K
            try simp only [Act.put, List.setIfInBounds_toArray, List.set_cons_zero, List.set_cons_succ]
            refine wpAnyH_ready (rs := [13]) (by kernel_rfl) (by simp) ?_
            refine AllReadyH.cons rfl (fun K hK => ?_) AllReadyH.nil
            go_simp
            have D := D.put V17.heap.size (wcells (x * 10 ^ t % y)) O11
            have A10 := A10.other V17.heap.size (wcells (x * 10 ^ t % y)) hne
            refine hK.out _ _ D (fun _ => ?_)
            clear hK K
            refine wpAnyH_done (by kernel_rfl) ?_ _
            go_wp2_with fail
            go_meet
            exact ⟨V.heap.size, rfl, by have h := A10.row; rw [splice_wide] at h; exact h, D⟩
      · skip
        go_simp
        refine hK.out _ _ (D.more _) (fun _ => ?_)
        clear hK K
        try simp only [Act.put, List.setIfInBounds_toArray, List.set_cons_zero, List.set_cons_succ]
        have D := D.more (.cells (wcells 0) 41)
        have L10 := A10.lt
        have A10 := A10.more (.cells (wcells 0) 41)
        have A11 := At.lay V16 (wcells 0) 41 DT
        clear DT
        revert D A10 A11
        generalize V16.alloc (.cells (wcells 0) 41) = V22
        intro D A10 A11
        have DT := D.top
        refine wpAnyH_ready (rs := [3]) (by kernel_rfl) (by simp) ?_
        refine AllReadyH.cons rfl (fun K hK => ?_) (AllReadyH.nil)
        · skip
          go_simp
          go_at_call 58
          refine (left_any x t _ (by omega)).mono ?_
          rintro e V23 ⟨rfl, hb⟩
          have D := D.kept hb
          have A10 := A10.kept hb
          have A11 := A11.kept hb
          clear hb
          have DT := D.top
          go_wp2_with fail
          refine hK.out _ _ D (fun _ => ?_)
          clear hK K
          try simp only [Act.put, List.setIfInBounds_toArray, List.set_cons_zero, List.set_cons_succ]
          refine wpAnyH_ready (rs := [6]) (by kernel_rfl) (by simp) ?_
          refine AllReadyH.cons rfl (fun K hK => ?_) (AllReadyH.nil)
          · skip
            go_simp
            go_at_call 59
            refine (over_any _ _ _ HX.out HY.out HY0.out).mono ?_
            rintro e V24 ⟨rfl, hb⟩
            have D := D.kept hb
            have A10 := A10.kept hb
            have A11 := A11.kept hb
            clear hb
            have DT := D.top
            go_wp2_with fail
            refine hK.out _ _ D (fun _ => ?_)
            clear hK K
            try simp only [Act.put, List.setIfInBounds_toArray, List.set_cons_zero, List.set_cons_succ]
            refine wpAnyH_take (i := 7) (v := .tuple #[.agg (wcells (x * 10 ^ t / y)), .agg (wcells (x * 10 ^ t % y))]) rfl (by kernel_rfl) (by kernel_rfl) (by kernel_rfl) (fun _ _ _ h => h) (Or.inl ⟨by rfl, fun W T => ?_⟩) (by assumption) ?_
            · have q0 : rowOf _ (w4.heap.size) = _ := T.y.row 0 _ rfl; have q1 : rowOf _ (w4.heap.size + 1) = _ := T.y.row 1 _ rfl; go_simp
            try simp only [Act.put, List.setIfInBounds_toArray, List.set_cons_zero, List.set_cons_succ]
            refine wpAnyH_take (i := 8) (v := .agg (wcells (x * 10 ^ t / y))) rfl (by kernel_rfl) (by kernel_rfl) (by kernel_rfl) (fun _ _ _ h => h) (Or.inl ⟨by rfl, fun W T => ?_⟩) (by assumption) ?_
            · have q0 : rowOf _ (w4.heap.size) = _ := T.y.row 0 _ rfl; have q1 : rowOf _ (w4.heap.size + 1) = _ := T.y.row 1 _ rfl; go_simp
            try simp only [Act.put, List.setIfInBounds_toArray, List.set_cons_zero, List.set_cons_succ]
            refine wpAnyH_take (i := 9) (v := .agg (wcells (x * 10 ^ t % y))) rfl (by kernel_rfl) (by kernel_rfl) (by kernel_rfl) (fun _ _ _ h => h) (Or.inl ⟨by rfl, fun W T => ?_⟩) (by assumption) ?_
            · have q0 : rowOf _ (w4.heap.size) = _ := T.y.row 0 _ rfl; have q1 : rowOf _ (w4.heap.size + 1) = _ := T.y.row 1 _ rfl; go_simp
            try simp only [Act.put, List.setIfInBounds_toArray, List.set_cons_zero, List.set_cons_succ]
            have hne : V.heap.size ≠ V16.heap.size := by omega
            have hne' := Ne.symm hne
            have R10 := A10.row
            have F10 := A10.free
            have O10 := A10.lo
            have R11 := A11.row
            have F11 := A11.free
            have O11 := A11.lo
            refine wpAnyH_ready (rs := [12]) (by kernel_rfl) (by simp) ?_
            refine AllReadyH.cons rfl (fun K hK => ?_) AllReadyH.nil
            go_simp
            have D := D.put V.heap.size (wcells (x * 10 ^ t / y)) O10
            have A10 := A10.put (wcells (x * 10 ^ t / y))
            have A11 := A11.other V.heap.size (wcells (x * 10 ^ t / y)) hne'
            refine hK.out _ _ D (fun _ => ?_)
            clear hK K
            try simp only [Act.put, List.setIfInBounds_toArray, List.set_cons_zero, List.set_cons_succ]
            refine wpAnyH_ready (rs := [13]) (by kernel_rfl) (by simp) ?_
            refine AllReadyH.cons rfl (fun K hK => ?_) AllReadyH.nil
            go_simp
            have D := D.put V16.heap.size (wcells (x * 10 ^ t % y)) O11
            have A10 := A10.other V16.heap.size (wcells (x * 10 ^ t % y)) hne
            refine hK.out _ _ D (fun _ => ?_)
            clear hK K
            refine wpAnyH_done (by kernel_rfl) ?_ _
            go_wp2_with fail
            go_meet
            exact ⟨V.heap.size, rfl, by have h := A10.row; rw [splice_wide] at h; exact h, D⟩
    · skip
      go_simp
      refine hK.out _ _ (D.more _) (fun _ => ?_)
      clear hK K
      try simp only [Act.put, List.setIfInBounds_toArray, List.set_cons_zero, List.set_cons_succ]
      have D := D.more (.cells (wcells 0) 41)
      have A11 := At.lay V (wcells 0) 41 DT
      clear DT
      revert D A11
      generalize V.alloc (.cells (wcells 0) 41) = V25
      intro D A11
      have DT := D.top
      refine wpAnyH_ready (rs := [3, 10]) (by kernel_rfl) (by simp) ?_
      refine AllReadyH.cons rfl (fun K hK => ?_) (AllReadyH.cons rfl (fun K hK => ?_) (AllReadyH.nil))
      · skip
        go_simp
        go_at_call 58
        refine (left_any x t _ (by omega)).mono ?_
        rintro e V26 ⟨rfl, hb⟩
        have D := D.kept hb
        have A11 := A11.kept hb
        clear hb
        have DT := D.top
        go_wp2_with fail
        refine hK.out _ _ D (fun _ => ?_)
        clear hK K
        try simp only [Act.put, List.setIfInBounds_toArray, List.set_cons_zero, List.set_cons_succ]
        refine wpAnyH_ready (rs := [6, 10]) (by kernel_rfl) (by simp) ?_
        refine AllReadyH.cons rfl (fun K hK => ?_) (AllReadyH.cons rfl (fun K hK => ?_) (AllReadyH.nil))
        · skip
          go_simp
          go_at_call 59
          refine (over_any _ _ _ HX.out HY.out HY0.out).mono ?_
          rintro e V27 ⟨rfl, hb⟩
          have D := D.kept hb
          have A11 := A11.kept hb
          clear hb
          have DT := D.top
          go_wp2_with fail
          refine hK.out _ _ D (fun _ => ?_)
          clear hK K
          try simp only [Act.put, List.setIfInBounds_toArray, List.set_cons_zero, List.set_cons_succ]
          refine wpAnyH_take (i := 7) (v := .tuple #[.agg (wcells (x * 10 ^ t / y)), .agg (wcells (x * 10 ^ t % y))]) rfl (by kernel_rfl) (by kernel_rfl) (by kernel_rfl) (fun _ _ _ h => h) (Or.inl ⟨by rfl, fun W T => ?_⟩) (by assumption) ?_
          · have q0 : rowOf _ (w4.heap.size) = _ := T.y.row 0 _ rfl; have q1 : rowOf _ (w4.heap.size + 1) = _ := T.y.row 1 _ rfl; go_simp
          try simp only [Act.put, List.setIfInBounds_toArray, List.set_cons_zero, List.set_cons_succ]
          refine wpAnyH_take (i := 8) (v := .agg (wcells (x * 10 ^ t / y))) rfl (by kernel_rfl) (by kernel_rfl) (by kernel_rfl) (fun _ _ _ h => h) (Or.inl ⟨by rfl, fun W T => ?_⟩) (by assumption) ?_
          · have q0 : rowOf _ (w4.heap.size) = _ := T.y.row 0 _ rfl; have q1 : rowOf _ (w4.heap.size + 1) = _ := T.y.row 1 _ rfl; go_simp
          try simp only [Act.put, List.setIfInBounds_toArray, List.set_cons_zero, List.set_cons_succ]
          refine wpAnyH_take (i := 9) (v := .agg (wcells (x * 10 ^ t % y))) rfl (by kernel_rfl) (by kernel_rfl) (by kernel_rfl) (fun _ _ _ h => h) (Or.inl ⟨by rfl, fun W T => ?_⟩) (by assumption) ?_
          · have q0 : rowOf _ (w4.heap.size) = _ := T.y.row 0 _ rfl; have q1 : rowOf _ (w4.heap.size + 1) = _ := T.y.row 1 _ rfl; go_simp
          try simp only [Act.put, List.setIfInBounds_toArray, List.set_cons_zero, List.set_cons_succ]
          refine wpAnyH_ready (rs := [10]) (by kernel_rfl) (by simp) ?_
          refine AllReadyH.cons rfl (fun K hK => ?_) (AllReadyH.nil)
          · skip
            go_simp
            refine hK.out _ _ (D.more _) (fun _ => ?_)
            clear hK K
            try simp only [Act.put, List.setIfInBounds_toArray, List.set_cons_zero, List.set_cons_succ]
            have D := D.more (.cells (wcells 0) 41)
            have L11 := A11.lt
            have A11 := A11.more (.cells (wcells 0) 41)
            have A10 := At.lay V27 (wcells 0) 41 DT
            clear DT
            revert D A11 A10
            generalize V27.alloc (.cells (wcells 0) 41) = V28
            intro D A11 A10
            have DT := D.top
            have hne : V27.heap.size ≠ V.heap.size := by omega
            have hne' := Ne.symm hne
            have R10 := A10.row
            have F10 := A10.free
            have O10 := A10.lo
            have R11 := A11.row
            have F11 := A11.free
            have O11 := A11.lo
            refine wpAnyH_ready (rs := [12]) (by kernel_rfl) (by simp) ?_
            refine AllReadyH.cons rfl (fun K hK => ?_) AllReadyH.nil
            go_simp
            have D := D.put V27.heap.size (wcells (x * 10 ^ t / y)) O10
            have A10 := A10.put (wcells (x * 10 ^ t / y))
            have A11 := A11.other V27.heap.size (wcells (x * 10 ^ t / y)) hne'
            refine hK.out _ _ D (fun _ => ?_)
            clear hK K
            try simp only [Act.put, List.setIfInBounds_toArray, List.set_cons_zero, List.set_cons_succ]
            refine wpAnyH_ready (rs := [13]) (by kernel_rfl) (by simp) ?_
            refine AllReadyH.cons rfl (fun K hK => ?_) AllReadyH.nil
            go_simp
            have D := D.put V.heap.size (wcells (x * 10 ^ t % y)) O11
            have A10 := A10.other V.heap.size (wcells (x * 10 ^ t % y)) hne
            refine hK.out _ _ D (fun _ => ?_)
            clear hK K
            refine wpAnyH_done (by kernel_rfl) ?_ _
            go_wp2_with fail
            go_meet
            exact ⟨V27.heap.size, rfl, by have h := A10.row; rw [splice_wide] at h; exact h, D⟩
        · skip
          go_simp
          refine hK.out _ _ (D.more _) (fun _ => ?_)
          clear hK K
          try simp only [Act.put, List.setIfInBounds_toArray, List.set_cons_zero, List.set_cons_succ]
          have D := D.more (.cells (wcells 0) 41)
          have L11 := A11.lt
          have A11 := A11.more (.cells (wcells 0) 41)
          have A10 := At.lay V26 (wcells 0) 41 DT
          clear DT
          revert D A11 A10
          generalize V26.alloc (.cells (wcells 0) 41) = V29
          intro D A11 A10
          have DT := D.top
          refine wpAnyH_ready (rs := [6]) (by kernel_rfl) (by simp) ?_
          refine AllReadyH.cons rfl (fun K hK => ?_) (AllReadyH.nil)
          · skip
            go_simp
            go_at_call 59
            refine (over_any _ _ _ HX.out HY.out HY0.out).mono ?_
            rintro e V30 ⟨rfl, hb⟩
            have D := D.kept hb
            have A11 := A11.kept hb
            have A10 := A10.kept hb
            clear hb
            have DT := D.top
            go_wp2_with fail
            refine hK.out _ _ D (fun _ => ?_)
            clear hK K
            try simp only [Act.put, List.setIfInBounds_toArray, List.set_cons_zero, List.set_cons_succ]
            refine wpAnyH_take (i := 7) (v := .tuple #[.agg (wcells (x * 10 ^ t / y)), .agg (wcells (x * 10 ^ t % y))]) rfl (by kernel_rfl) (by kernel_rfl) (by kernel_rfl) (fun _ _ _ h => h) (Or.inl ⟨by rfl, fun W T => ?_⟩) (by assumption) ?_
            · have q0 : rowOf _ (w4.heap.size) = _ := T.y.row 0 _ rfl; have q1 : rowOf _ (w4.heap.size + 1) = _ := T.y.row 1 _ rfl; go_simp
            try simp only [Act.put, List.setIfInBounds_toArray, List.set_cons_zero, List.set_cons_succ]
            refine wpAnyH_take (i := 8) (v := .agg (wcells (x * 10 ^ t / y))) rfl (by kernel_rfl) (by kernel_rfl) (by kernel_rfl) (fun _ _ _ h => h) (Or.inl ⟨by rfl, fun W T => ?_⟩) (by assumption) ?_
            · have q0 : rowOf _ (w4.heap.size) = _ := T.y.row 0 _ rfl; have q1 : rowOf _ (w4.heap.size + 1) = _ := T.y.row 1 _ rfl; go_simp
            try simp only [Act.put, List.setIfInBounds_toArray, List.set_cons_zero, List.set_cons_succ]
            refine wpAnyH_take (i := 9) (v := .agg (wcells (x * 10 ^ t % y))) rfl (by kernel_rfl) (by kernel_rfl) (by kernel_rfl) (fun _ _ _ h => h) (Or.inl ⟨by rfl, fun W T => ?_⟩) (by assumption) ?_
            · have q0 : rowOf _ (w4.heap.size) = _ := T.y.row 0 _ rfl; have q1 : rowOf _ (w4.heap.size + 1) = _ := T.y.row 1 _ rfl; go_simp
            try simp only [Act.put, List.setIfInBounds_toArray, List.set_cons_zero, List.set_cons_succ]
            have hne : V26.heap.size ≠ V.heap.size := by omega
            have hne' := Ne.symm hne
            have R10 := A10.row
            have F10 := A10.free
            have O10 := A10.lo
            have R11 := A11.row
            have F11 := A11.free
            have O11 := A11.lo
            refine wpAnyH_ready (rs := [12]) (by kernel_rfl) (by simp) ?_
            refine AllReadyH.cons rfl (fun K hK => ?_) AllReadyH.nil
            go_simp
            have D := D.put V26.heap.size (wcells (x * 10 ^ t / y)) O10
            have A10 := A10.put (wcells (x * 10 ^ t / y))
            have A11 := A11.other V26.heap.size (wcells (x * 10 ^ t / y)) hne'
            refine hK.out _ _ D (fun _ => ?_)
            clear hK K
            try simp only [Act.put, List.setIfInBounds_toArray, List.set_cons_zero, List.set_cons_succ]
            refine wpAnyH_ready (rs := [13]) (by kernel_rfl) (by simp) ?_
            refine AllReadyH.cons rfl (fun K hK => ?_) AllReadyH.nil
            go_simp
            have D := D.put V.heap.size (wcells (x * 10 ^ t % y)) O11
            have A10 := A10.other V.heap.size (wcells (x * 10 ^ t % y)) hne
            refine hK.out _ _ D (fun _ => ?_)
            clear hK K
            refine wpAnyH_done (by kernel_rfl) ?_ _
            go_wp2_with fail
            go_meet
            exact ⟨V26.heap.size, rfl, by have h := A10.row; rw [splice_wide] at h; exact h, D⟩
      · skip
        go_simp
        refine hK.out _ _ (D.more _) (fun _ => ?_)
        clear hK K
        try simp only [Act.put, List.setIfInBounds_toArray, List.set_cons_zero, List.set_cons_succ]
        have D := D.more (.cells (wcells 0) 41)
        have L11 := A11.lt
        have A11 := A11.more (.cells (wcells 0) 41)
        have A10 := At.lay V25 (wcells 0) 41 DT
        clear DT
        revert D A11 A10
        generalize V25.alloc (.cells (wcells 0) 41) = V31
        intro D A11 A10
        have DT := D.top
        refine wpAnyH_ready (rs := [3]) (by kernel_rfl) (by simp) ?_
        refine AllReadyH.cons rfl (fun K hK => ?_) (AllReadyH.nil)
        · skip
          go_simp
          go_at_call 58
          refine (left_any x t _ (by omega)).mono ?_
          rintro e V32 ⟨rfl, hb⟩
          have D := D.kept hb
          have A11 := A11.kept hb
          have A10 := A10.kept hb
          clear hb
          have DT := D.top
          go_wp2_with fail
          refine hK.out _ _ D (fun _ => ?_)
          clear hK K
          try simp only [Act.put, List.setIfInBounds_toArray, List.set_cons_zero, List.set_cons_succ]
          refine wpAnyH_ready (rs := [6]) (by kernel_rfl) (by simp) ?_
          refine AllReadyH.cons rfl (fun K hK => ?_) (AllReadyH.nil)
          · skip
            go_simp
            go_at_call 59
            refine (over_any _ _ _ HX.out HY.out HY0.out).mono ?_
            rintro e V33 ⟨rfl, hb⟩
            have D := D.kept hb
            have A11 := A11.kept hb
            have A10 := A10.kept hb
            clear hb
            have DT := D.top
            go_wp2_with fail
            refine hK.out _ _ D (fun _ => ?_)
            clear hK K
            try simp only [Act.put, List.setIfInBounds_toArray, List.set_cons_zero, List.set_cons_succ]
            refine wpAnyH_take (i := 7) (v := .tuple #[.agg (wcells (x * 10 ^ t / y)), .agg (wcells (x * 10 ^ t % y))]) rfl (by kernel_rfl) (by kernel_rfl) (by kernel_rfl) (fun _ _ _ h => h) (Or.inl ⟨by rfl, fun W T => ?_⟩) (by assumption) ?_
            · have q0 : rowOf _ (w4.heap.size) = _ := T.y.row 0 _ rfl; have q1 : rowOf _ (w4.heap.size + 1) = _ := T.y.row 1 _ rfl; go_simp
            try simp only [Act.put, List.setIfInBounds_toArray, List.set_cons_zero, List.set_cons_succ]
            refine wpAnyH_take (i := 8) (v := .agg (wcells (x * 10 ^ t / y))) rfl (by kernel_rfl) (by kernel_rfl) (by kernel_rfl) (fun _ _ _ h => h) (Or.inl ⟨by rfl, fun W T => ?_⟩) (by assumption) ?_
            · have q0 : rowOf _ (w4.heap.size) = _ := T.y.row 0 _ rfl; have q1 : rowOf _ (w4.heap.size + 1) = _ := T.y.row 1 _ rfl; go_simp
            try simp only [Act.put, List.setIfInBounds_toArray, List.set_cons_zero, List.set_cons_succ]
            refine wpAnyH_take (i := 9) (v := .agg (wcells (x * 10 ^ t % y))) rfl (by kernel_rfl) (by kernel_rfl) (by kernel_rfl) (fun _ _ _ h => h) (Or.inl ⟨by rfl, fun W T => ?_⟩) (by assumption) ?_
            · have q0 : rowOf _ (w4.heap.size) = _ := T.y.row 0 _ rfl; have q1 : rowOf _ (w4.heap.size + 1) = _ := T.y.row 1 _ rfl; go_simp
            try simp only [Act.put, List.setIfInBounds_toArray, List.set_cons_zero, List.set_cons_succ]
            have hne : V25.heap.size ≠ V.heap.size := by omega
            have hne' := Ne.symm hne
            have R10 := A10.row
            have F10 := A10.free
            have O10 := A10.lo
            have R11 := A11.row
            have F11 := A11.free
            have O11 := A11.lo
            refine wpAnyH_ready (rs := [12]) (by kernel_rfl) (by simp) ?_
            refine AllReadyH.cons rfl (fun K hK => ?_) AllReadyH.nil
            go_simp
            have D := D.put V25.heap.size (wcells (x * 10 ^ t / y)) O10
            have A10 := A10.put (wcells (x * 10 ^ t / y))
            have A11 := A11.other V25.heap.size (wcells (x * 10 ^ t / y)) hne'
            refine hK.out _ _ D (fun _ => ?_)
            clear hK K
            try simp only [Act.put, List.setIfInBounds_toArray, List.set_cons_zero, List.set_cons_succ]
            refine wpAnyH_ready (rs := [13]) (by kernel_rfl) (by simp) ?_
            refine AllReadyH.cons rfl (fun K hK => ?_) AllReadyH.nil
            go_simp
            have D := D.put V.heap.size (wcells (x * 10 ^ t % y)) O11
            have A10 := A10.other V.heap.size (wcells (x * 10 ^ t % y)) hne
            refine hK.out _ _ D (fun _ => ?_)
            clear hK K
            refine wpAnyH_done (by kernel_rfl) ?_ _
            go_wp2_with fail
            go_meet
            exact ⟨V25.heap.size, rfl, by have h := A10.row; rw [splice_wide] at h; exact h, D⟩
  case rest =>
    obtain ⟨bq, rfl, hq, D⟩ := hcut
    have y0 : World.cell? _ ⟨w1.heap.size, 0, none⟩ = some (.bool na) := D.a.sgn 0 rfl
    have y1 : World.cell? _ ⟨w2.heap.size, 0, none⟩ = some (.bool nb) := D.b.sgn 0 rfl
    have K5 := D.k
    clear D
    go_wp2_with (go_at_call 60; refine (whole_any _ _ _ _ HQ.out (by omega)).mono ?_; rintro e w9 ⟨rfl, hb⟩; have K6 := K5.kept hb; clear hb)
    go_ret2
    exact ⟨rfl, K6.below⟩
end Go.Proofs.YtkcogoibaodbeaaGreatDoor
