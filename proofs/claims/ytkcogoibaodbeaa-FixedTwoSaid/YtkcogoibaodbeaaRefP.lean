/- The references' negated, short, plus. -/
import Derived.Test.YtkcogoibaodbeaaRefM
import Derived.Test.YtkcogoibaodbeaaDiv
import Derived.Test.YtkcogoibaodbeaaTwo
set_option linter.unusedVariables false
set_option linter.unusedSimpArgs false
namespace Go.Proofs.Ytkcogoibaodbeaa
open Go.RowKit
attribute [local go_sem] ByteArray.mk_append_mk ByteArray.extract_mk
theorem dl_div_iff (u k : Nat) : dl (u / 10 ^ k) ≤ 31 ↔ dl u ≤ 31 + k := by
  rw [dl_le_iff _ _ (by decide), dl_le_iff _ _ (by omega), Nat.div_lt_iff_lt_mul (Nat.pow_pos (by decide)), ← Nat.pow_add]
theorem sgn_scU {n : Bool} {u s t : Nat} (h : sgn n u = n) (ht : s ≤ t) : sgn n (scU u s t) = n := by
  cases n with
  | false => rfl
  | true =>
    unfold sgn at h ⊢
    have hu : u ≠ 0 := by intro e; subst e; simp at h
    rw [scU_up ht]
    have : u * 10 ^ (t - s) ≠ 0 := Nat.mul_ne_zero hu (Nat.ne_of_gt (Nat.pow_pos (by decide)))
    rw [beq_eq_false_iff_ne.2 this]; rfl
theorem At.c0 {lo : Nat} {W : World} {b : Nat} {n : Bool} {u s : Nat} (T : At lo W b (rcells n u s)) : W.cell? ⟨b, 0, none⟩ = some (.bool n) := by rw [cell_row, T.row]; rfl
theorem At.c1 {lo : Nat} {W : World} {b : Nat} {n : Bool} {u s : Nat} (T : At lo W b (rcells n u s)) : W.cell? ⟨b, 1, none⟩ = some (.string ⟨(ds u).toArray⟩) := by rw [cell_row, T.row]; rfl
structure PlS (w : World) (p6 p7 : Nat) (A B : Array Value) (W : World) : Prop where
  a : At (w.heap.size + 3) W p6 A
  b : At (w.heap.size + 3) W p7 B
theorem At.drew {lo : Nat} {W : World} {b : Nat} {c : Array Value} (T : At lo W b c) : At lo W.drew b c := ⟨T.row, T.free, T.lo, T.lt⟩
attribute [local irreducible] ds dd txt
set_option maxRecDepth 100000 in
set_option maxHeartbeats 2000000 in
theorem negated_any (n : Bool) (u s : Nat) (w : World) (hu : dl u ≤ 1000) :
    Calls Try.prog 63 #[.agg (rcells n u s)] w fun e w' => e = .returned (.agg (rcells (sgn (!n) u) u s)) ∧ Below w.heap.size w w' := by
  have MA := Lib.hid (fun w => made_ds (!n) u s w hu)
  have T0 := ((Blk.nil w).lay rfl (rcells n u s) 50).lay (by simp) rzero 50
  go_enter Try.func63, Try.ntmps63
  go_wp2_with (go_at_call 47; refine (MA.out _).mono ?_; rintro e w1 ⟨rfl, hb⟩; have T1 := T0.kept hb; have r1 : rowOf _ (w.heap.size + 1) = _ := T1.row 1 _ rfl; have f1 : freeOf _ (w.heap.size + 1) = _ := T1.fr 1 rfl)
  refine ret_row (b := w.heap.size + 1) (C := rcells (sgn (!n) u) u s) rfl rtRef rfl (by go_simp) rfl ⟨rfl, ?_⟩
  exact T1.below.putRow (by omega) _ _
set_option maxRecDepth 100000 in
set_option maxHeartbeats 4000000 in
theorem short_any (n : Bool) (u S : Nat) (w : World) (hu : dl u ≤ 200) (hS : S ≤ 100) :
    Calls Try.prog 66 #[.agg (rcells (sgn n u) u S)] w fun e w' => e = .returned (.tuple #[.string ⟨(fittedR n u S).1.toArray⟩, .int .i64 (fittedR n u S).2]) ∧ Below w.heap.size w w' := by
  have T0 := (Blk.nil w).lay rfl (rcells (sgn n u) u S) 50
  obtain ⟨M, hM⟩ : ∃ M, min S 31 = M := ⟨_, rfl⟩
  have hM1 : min (S : Int) 31 = (M : Int) := by omega
  have hsg : ∀ X, sgn (sgn n u) (scU u S X) = sgn n (scU u S X) := fun X => by
    unfold sgn
    cases n with
    | false => rfl
    | true =>
      by_cases h0 : u = 0
      · subst h0; have : scU 0 S X = 0 := by unfold scU; split <;> simp
        rw [this]; rfl
      · rw [beq_eq_false_iff_ne.2 h0]; rfl
  go_enter Try.func66, Try.ntmps66
  go_wp2
  go_loopw [4] (fun s4 W => ∃ j : Int, -1 ≤ j ∧ j ≤ (M : Int) ∧ s4 = .int .i64 j ∧ (∀ t : Nat, j < (t : Int) → t ≤ M → S + 31 < t + dl u) ∧ Blk w W [rcells (sgn n u) u S]) (fun s4 _ => (intOf s4 + 1).toNat)
  case atStart => exact ⟨(M : Int), by omega, by omega, rfl, fun t h1 h2 => by omega, T0⟩
  case round =>
    obtain ⟨j, hj1, hj2, rfl, hno, T1⟩ := hrel
    have r1 : rowOf _ (w.heap.size) = _ := T1.row 0 _ rfl
    by_cases hj : 0 ≤ j
    · obtain ⟨t, rfl⟩ : ∃ t : Nat, j = t := ⟨j.toNat, by omega⟩
      have ht0 : (0 : Int) ≤ (t : Int) := by omega
      have htS : t ≤ S := by omega
      obtain ⟨X, hX⟩ : ∃ X, scU u S t = X := ⟨_, rfl⟩
      have eX : X = u / 10 ^ (S - t) := by
        rw [← hX]; unfold scU
        split
        · rfl
        · have : t = S := by omega
          subst this; simp
      have hXd : dl X ≤ 200 := by rw [eX]; exact Nat.le_trans (dl_mono (Nat.div_le_self _ _)) hu
      have hiff : dl X ≤ 31 ↔ dl u ≤ 31 + (S - t) := by rw [eX]; exact dl_div_iff u (S - t)
      have CU0 := fun w => rcut_any (sgn n u) u S t w (by omega) (by omega) (by omega)
      have hs := hsg t
      rw [hX] at hs
      rw [hX, hs] at CU0
      have CU := Lib.hid CU0
      have TX := Lib.hid (fun w => rtext_any n X t w (by omega) (by omega))
      have zX := ds_length X
      have wt : IntKind.i64.wrap ((t : Int) - 1) = (t : Int) - 1 := IntWalk.i64_in _ (by omega)
      clear CU0 hs eX hsg
      by_cases h31 : dl X ≤ 31
      · have h31' : (dl X : Int) ≤ 31 := by omega
        have hfit : ftS u S = t := by
          unfold ftS ftOut
          have h1 := hiff.1 h31
          rcases Nat.lt_or_ge t M with h2 | h2
          · have := hno (t + 1) (by omega) (by omega)
            omega
          · omega
        have hres : fittedR n u S = (txt n X t, 0) := by unfold fittedR; rw [hfit, hX]; exact if_pos h31
        clear hno hiff hX hfit
        go_wp2_with (first
          | (go_at_call 44; refine (CU.out _).mono ?_; rintro e w1 ⟨rfl, hb⟩; have T2 := T1.kept hb; have X2 := (Blk.nil w1).lay rfl (rcells (sgn n X) X t) 50; have T2' := T2.more (.cells (rcells (sgn n X) X t) 50); clear hb)
          | (go_at_call 57; refine (TX.out _).mono ?_; rintro e w3 ⟨rfl, hb⟩; have T3 := T2'.kept hb; clear hb))
        go_ret2
        exact ⟨by first | rfl | (rw [hres]; rfl), T3.below⟩
      · have h31' : ¬ (dl X : Int) ≤ 31 := by omega
        have hno' : ∀ t' : Nat, (t : Int) - 1 < (t' : Int) → t' ≤ M → S + 31 < t' + dl u := fun t' h1 h2 => by
          rcases Nat.lt_or_ge t t' with h3 | h3
          · exact hno t' (by omega) h2
          · have : t' = t := by omega
            subst this
            have : ¬ dl u ≤ 31 + (S - t') := fun e => h31 (hiff.2 e)
            omega
        clear hno hiff hX
        go_wp2_with (first
          | (go_at_call 44; refine (CU.out _).mono ?_; rintro e w1 ⟨rfl, hb⟩; have T2 := T1.kept hb; have X2 := (Blk.nil w1).lay rfl (rcells (sgn n X) X t) 50; have T2' := T2.more (.cells (rcells (sgn n X) X t) 50); clear hb))
        exact ⟨⟨(t : Int) - 1, by omega, by omega, rfl, hno', T2'⟩, by simp [intOf]⟩
    · have h0 := hno 0 (by omega) (by omega)
      have hfit : ftS u S = 0 := by unfold ftS ftOut; omega
      have hres : fittedR n u S = ([], 4) := by
        unfold fittedR
        rw [hfit]
        refine if_neg (fun e => ?_)
        have eX : scU u S 0 = u / 10 ^ (S - 0) := by
          unfold scU
          split
          · rfl
          · have : S = 0 := by omega
            subst this; simp
        rw [eX, dl_div_iff] at e
        omega
      clear hno hsg hfit
      go_wp2
      go_ret2
      exact ⟨by first | rfl | (rw [hres]; rfl), T1.below⟩
set_option maxRecDepth 100000 in
set_option maxHeartbeats 8000000 in
theorem plus_ref (na : Bool) (a sa : Nat) (nb : Bool) (b sb : Nat) (w : World) (hna : sgn na a = na) (hnb : sgn nb b = nb) (ha : dl a ≤ 31) (hb : dl b ≤ 31) (hsa : sa ≤ 31) (hsb : sb ≤ 31) :
    Calls Try.prog 62 #[.agg (rcells na a sa), .agg (rcells nb b sb)] w fun e w' => e = .returned (.agg (rcells (sgn (numPlus na a sa nb b sb).1 (numPlus na a sa nb b sb).2) (numPlus na a sa nb b sb).2 (max sa sb))) ∧ Below w.heap.size w w' := by
  unfold numPlus
  obtain ⟨S, hS⟩ : ∃ S, max sa sb = S := ⟨_, rfl⟩
  rw [hS]
  have hS1 : max (sa : Int) (sb : Int) = (S : Int) := by omega
  have C10 := fun w => rcut_any na a sa S w (by omega) (by omega) (by omega)
  have C20 := fun w => rcut_any nb b sb S w (by omega) (by omega) (by omega)
  rw [sgn_scU hna (by omega)] at C10
  rw [sgn_scU hnb (by omega)] at C20
  have hX : dl (scU a sa S) ≤ 62 := dl_le_of (by decide) (sc_lt ha (by omega))
  have hY : dl (scU b sb S) ≤ 62 := dl_le_of (by decide) (sc_lt hb (by omega))
  generalize scU a sa S = X at *
  generalize scU b sb S = Y at *
  have C1 := Lib.hid C10
  have C2 := Lib.hid C20
  have zX := ds_length X
  have zY := ds_length Y
  clear C10 C20
  have T0 := (((Blk.nil w).lay rfl (rcells na a sa) 50).lay (by simp) (rcells nb b sb) 50).lay (by simp) #[.bool false, .string ⟨#[]⟩, .int .i64 0] 50
  have D0 := ((((Blk.nil w).lay rfl (rcells na a sa) 50).lay (by simp) (rcells nb b sb) 50).more (.cells #[.bool false, .string ⟨#[]⟩, .int .i64 0] 50)).drew
  have TK0 : Blk w _ [(rcells na a sa), (rcells nb b sb), rzero] := T0.drew
  go_enter Try.func62, Try.ntmps62
  go_wp2
  go_cut [6, 7] (fun s6 s7 W => ∃ p6 p7 : Nat, s6 = .pointer (some ⟨p6, 0, none⟩) ∧ s7 = .pointer (some ⟨p7, 0, none⟩) ∧ p6 ≠ p7 ∧ At (w.heap.size + 3) W p6 (rcells na X S) ∧ At (w.heap.size + 3) W p7 (rcells nb Y S) ∧ Blk w W [(rcells na a sa), (rcells nb b sb), rzero])
  case first =>
    refine wp_region_held_drew (S := fun W => Blk w W [(rcells na a sa), (rcells nb b sb)]) (by kernel_rfl) D0 (fun hHeld => ?_)
    have D : Blk w _ [(rcells na a sa), (rcells nb b sb)] := hHeld
    have TK := TK0
    clear hHeld D0 TK0 T0
    revert D TK
    generalize (((w.alloc (.cells (rcells na a sa) 50)).alloc (.cells (rcells nb b sb) 50)).alloc (.cells #[.bool false, .string ⟨#[]⟩, .int .i64 0] 50)).drew = V
    intro D TK
    have DT := TK.le
    refine wpAnyH_take (i := 0) (v := .agg (rcells na a sa)) rfl (by kernel_rfl) (by kernel_rfl) (by kernel_rfl) (fun _ _ _ h => h) (Or.inl ⟨by rfl, fun W T => ?_⟩) (by assumption) ?_
    · have q0 : rowOf _ (w.heap.size) = _ := T.row 0 _ rfl; have q1 : rowOf _ (w.heap.size + 1) = _ := T.row 1 _ rfl; go_simp
    try simp only [Act.put, List.setIfInBounds_toArray, List.set_cons_zero, List.set_cons_succ]
    refine wpAnyH_take (i := 1) (v := .int .i64 S) rfl (by kernel_rfl) (by kernel_rfl) (by kernel_rfl) (fun _ _ _ h => h) (Or.inl ⟨by rfl, fun W T => ?_⟩) (by assumption) ?_
    · go_simp
    try simp only [Act.put, List.setIfInBounds_toArray, List.set_cons_zero, List.set_cons_succ]
    refine wpAnyH_take (i := 3) (v := .agg (rcells nb b sb)) rfl (by kernel_rfl) (by kernel_rfl) (by kernel_rfl) (fun _ _ _ h => h) (Or.inl ⟨by rfl, fun W T => ?_⟩) (by assumption) ?_
    · have q0 : rowOf _ (w.heap.size) = _ := T.row 0 _ rfl; have q1 : rowOf _ (w.heap.size + 1) = _ := T.row 1 _ rfl; go_simp
    try simp only [Act.put, List.setIfInBounds_toArray, List.set_cons_zero, List.set_cons_succ]
    refine wpAnyH_take (i := 4) (v := .int .i64 S) rfl (by kernel_rfl) (by kernel_rfl) (by kernel_rfl) (fun _ _ _ h => h) (Or.inl ⟨by rfl, fun W T => ?_⟩) (by assumption) ?_
    · go_simp
    try simp only [Act.put, List.setIfInBounds_toArray, List.set_cons_zero, List.set_cons_succ]
    refine wpAnyH_ready (rs := [2, 6, 7]) (by kernel_rfl) (by simp) ?_
    refine AllReadyH.cons rfl (fun K hK => ?_) (AllReadyH.cons rfl (fun K hK => ?_) (AllReadyH.cons rfl (fun K hK => ?_) (AllReadyH.nil)))
    · skip
      go_simp
      go_at_call 44
      refine (C1.out _).mono ?_
      rintro e V0 ⟨rfl, hb⟩
      have D := D.kept hb
      have TK := TK.kept hb
      clear hb
      have DT := TK.le
      go_wp2_with fail
      refine hK.out _ _ D (fun _ => ?_)
      clear hK K
      try simp only [Act.put, List.setIfInBounds_toArray, List.set_cons_zero, List.set_cons_succ]
      refine wpAnyH_ready (rs := [5, 6, 7]) (by kernel_rfl) (by simp) ?_
      refine AllReadyH.cons rfl (fun K hK => ?_) (AllReadyH.cons rfl (fun K hK => ?_) (AllReadyH.cons rfl (fun K hK => ?_) (AllReadyH.nil)))
      · skip
        go_simp
        go_at_call 44
        refine (C2.out _).mono ?_
        rintro e V1 ⟨rfl, hb⟩
        have D := D.kept hb
        have TK := TK.kept hb
        clear hb
        have DT := TK.le
        go_wp2_with fail
        refine hK.out _ _ D (fun _ => ?_)
        clear hK K
        try simp only [Act.put, List.setIfInBounds_toArray, List.set_cons_zero, List.set_cons_succ]
        refine wpAnyH_ready (rs := [6, 7]) (by kernel_rfl) (by simp) ?_
        refine AllReadyH.cons rfl (fun K hK => ?_) (AllReadyH.cons rfl (fun K hK => ?_) (AllReadyH.nil))
        · skip
          go_simp
          refine hK.out _ _ (D.more _) (fun _ => ?_)
          clear hK K
          try simp only [Act.put, List.setIfInBounds_toArray, List.set_cons_zero, List.set_cons_succ]
          have D := D.more (.cells #[.bool false, .string ⟨#[]⟩, .int .i64 0] 50)
          have TK := TK.more (.cells #[.bool false, .string ⟨#[]⟩, .int .i64 0] 50)
          have A6 := At.lay V1 #[.bool false, .string ⟨#[]⟩, .int .i64 0] 50 DT
          clear DT
          revert D TK A6
          generalize V1.alloc (.cells #[.bool false, .string ⟨#[]⟩, .int .i64 0] 50) = V2
          intro D TK A6
          have DT := TK.le
          refine wpAnyH_ready (rs := [7]) (by kernel_rfl) (by simp) ?_
          refine AllReadyH.cons rfl (fun K hK => ?_) (AllReadyH.nil)
          · skip
            go_simp
            refine hK.out _ _ (D.more _) (fun _ => ?_)
            clear hK K
            try simp only [Act.put, List.setIfInBounds_toArray, List.set_cons_zero, List.set_cons_succ]
            have D := D.more (.cells #[.bool false, .string ⟨#[]⟩, .int .i64 0] 50)
            have TK := TK.more (.cells #[.bool false, .string ⟨#[]⟩, .int .i64 0] 50)
            have L6 := A6.lt
            have A6 := A6.more (.cells #[.bool false, .string ⟨#[]⟩, .int .i64 0] 50)
            have A7 := At.lay V2 #[.bool false, .string ⟨#[]⟩, .int .i64 0] 50 DT
            clear DT
            revert D TK A6 A7
            generalize V2.alloc (.cells #[.bool false, .string ⟨#[]⟩, .int .i64 0] 50) = V3
            intro D TK A6 A7
            have DT := TK.le
            have hne : V1.heap.size ≠ V2.heap.size := by omega
            have hne' := Ne.symm hne
            have R6 := A6.row
            have F6 := A6.free
            have O6 := A6.lo
            have R7 := A7.row
            have F7 := A7.free
            have O7 := A7.lo
            refine wpAnyH_ready (rs := [8]) (by kernel_rfl) (by simp) ?_
            refine AllReadyH.cons rfl (fun K hK => ?_) AllReadyH.nil
            go_simp
            have D := D.putOther V1.heap.size 0 (rcells na X S) (by simp at O6 ⊢; omega)
            have TK := TK.putOther V1.heap.size 0 (rcells na X S) O6
            have A6 := A6.put (rcells na X S)
            have A7 := A7.other V1.heap.size (rcells na X S) hne'
            refine hK.out _ _ D (fun _ => ?_)
            clear hK K
            try simp only [Act.put, List.setIfInBounds_toArray, List.set_cons_zero, List.set_cons_succ]
            have R7 := A7.row
            have F7 := A7.free
            refine wpAnyH_ready (rs := [9]) (by kernel_rfl) (by simp) ?_
            refine AllReadyH.cons rfl (fun K hK => ?_) AllReadyH.nil
            go_simp
            have D := D.putOther V2.heap.size 0 (rcells nb Y S) (by simp at O7 ⊢; omega)
            have TK := TK.putOther V2.heap.size 0 (rcells nb Y S) O7
            have A7 := A7.put (rcells nb Y S)
            have A6 := A6.other V2.heap.size (rcells nb Y S) hne
            refine hK.out _ _ D (fun _ => ?_)
            clear hK K
            try simp only [Act.put, List.setIfInBounds_toArray, List.set_cons_zero, List.set_cons_succ]
            refine wpAnyH_done (by kernel_rfl) ?_ _
            go_wp2_with fail
            go_meet
            rw [splice_rcells] at A6 A7
            exact ⟨V1.heap.size, V2.heap.size, rfl, rfl, hne, A6, A7, TK⟩
        · skip
          go_simp
          refine hK.out _ _ (D.more _) (fun _ => ?_)
          clear hK K
          try simp only [Act.put, List.setIfInBounds_toArray, List.set_cons_zero, List.set_cons_succ]
          have D := D.more (.cells #[.bool false, .string ⟨#[]⟩, .int .i64 0] 50)
          have TK := TK.more (.cells #[.bool false, .string ⟨#[]⟩, .int .i64 0] 50)
          have A7 := At.lay V1 #[.bool false, .string ⟨#[]⟩, .int .i64 0] 50 DT
          clear DT
          revert D TK A7
          generalize V1.alloc (.cells #[.bool false, .string ⟨#[]⟩, .int .i64 0] 50) = V4
          intro D TK A7
          have DT := TK.le
          refine wpAnyH_ready (rs := [6]) (by kernel_rfl) (by simp) ?_
          refine AllReadyH.cons rfl (fun K hK => ?_) (AllReadyH.nil)
          · skip
            go_simp
            refine hK.out _ _ (D.more _) (fun _ => ?_)
            clear hK K
            try simp only [Act.put, List.setIfInBounds_toArray, List.set_cons_zero, List.set_cons_succ]
            have D := D.more (.cells #[.bool false, .string ⟨#[]⟩, .int .i64 0] 50)
            have TK := TK.more (.cells #[.bool false, .string ⟨#[]⟩, .int .i64 0] 50)
            have L7 := A7.lt
            have A7 := A7.more (.cells #[.bool false, .string ⟨#[]⟩, .int .i64 0] 50)
            have A6 := At.lay V4 #[.bool false, .string ⟨#[]⟩, .int .i64 0] 50 DT
            clear DT
            revert D TK A7 A6
            generalize V4.alloc (.cells #[.bool false, .string ⟨#[]⟩, .int .i64 0] 50) = V5
            intro D TK A7 A6
            have DT := TK.le
            have hne : V4.heap.size ≠ V1.heap.size := by omega
            have hne' := Ne.symm hne
            have R6 := A6.row
            have F6 := A6.free
            have O6 := A6.lo
            have R7 := A7.row
            have F7 := A7.free
            have O7 := A7.lo
            refine wpAnyH_ready (rs := [8]) (by kernel_rfl) (by simp) ?_
            refine AllReadyH.cons rfl (fun K hK => ?_) AllReadyH.nil
            go_simp
            have D := D.putOther V4.heap.size 0 (rcells na X S) (by simp at O6 ⊢; omega)
            have TK := TK.putOther V4.heap.size 0 (rcells na X S) O6
            have A6 := A6.put (rcells na X S)
            have A7 := A7.other V4.heap.size (rcells na X S) hne'
            refine hK.out _ _ D (fun _ => ?_)
            clear hK K
            try simp only [Act.put, List.setIfInBounds_toArray, List.set_cons_zero, List.set_cons_succ]
            have R7 := A7.row
            have F7 := A7.free
            refine wpAnyH_ready (rs := [9]) (by kernel_rfl) (by simp) ?_
            refine AllReadyH.cons rfl (fun K hK => ?_) AllReadyH.nil
            go_simp
            have D := D.putOther V1.heap.size 0 (rcells nb Y S) (by simp at O7 ⊢; omega)
            have TK := TK.putOther V1.heap.size 0 (rcells nb Y S) O7
            have A7 := A7.put (rcells nb Y S)
            have A6 := A6.other V1.heap.size (rcells nb Y S) hne
            refine hK.out _ _ D (fun _ => ?_)
            clear hK K
            try simp only [Act.put, List.setIfInBounds_toArray, List.set_cons_zero, List.set_cons_succ]
            refine wpAnyH_done (by kernel_rfl) ?_ _
            go_wp2_with fail
            go_meet
            rw [splice_rcells] at A6 A7
            exact ⟨V4.heap.size, V1.heap.size, rfl, rfl, hne, A6, A7, TK⟩
      · skip
        go_simp
        refine hK.out _ _ (D.more _) (fun _ => ?_)
        clear hK K
        try simp only [Act.put, List.setIfInBounds_toArray, List.set_cons_zero, List.set_cons_succ]
        have D := D.more (.cells #[.bool false, .string ⟨#[]⟩, .int .i64 0] 50)
        have TK := TK.more (.cells #[.bool false, .string ⟨#[]⟩, .int .i64 0] 50)
        have A6 := At.lay V0 #[.bool false, .string ⟨#[]⟩, .int .i64 0] 50 DT
        clear DT
        revert D TK A6
        generalize V0.alloc (.cells #[.bool false, .string ⟨#[]⟩, .int .i64 0] 50) = V6
        intro D TK A6
        have DT := TK.le
        refine wpAnyH_ready (rs := [5, 7]) (by kernel_rfl) (by simp) ?_
        refine AllReadyH.cons rfl (fun K hK => ?_) (AllReadyH.cons rfl (fun K hK => ?_) (AllReadyH.nil))
        · skip
          go_simp
          go_at_call 44
          refine (C2.out _).mono ?_
          rintro e V7 ⟨rfl, hb⟩
          have D := D.kept hb
          have TK := TK.kept hb
          have A6 := A6.kept hb
          clear hb
          have DT := TK.le
          go_wp2_with fail
          refine hK.out _ _ D (fun _ => ?_)
          clear hK K
          try simp only [Act.put, List.setIfInBounds_toArray, List.set_cons_zero, List.set_cons_succ]
          refine wpAnyH_ready (rs := [7]) (by kernel_rfl) (by simp) ?_
          refine AllReadyH.cons rfl (fun K hK => ?_) (AllReadyH.nil)
          · skip
            go_simp
            refine hK.out _ _ (D.more _) (fun _ => ?_)
            clear hK K
            try simp only [Act.put, List.setIfInBounds_toArray, List.set_cons_zero, List.set_cons_succ]
            have D := D.more (.cells #[.bool false, .string ⟨#[]⟩, .int .i64 0] 50)
            have TK := TK.more (.cells #[.bool false, .string ⟨#[]⟩, .int .i64 0] 50)
            have L6 := A6.lt
            have A6 := A6.more (.cells #[.bool false, .string ⟨#[]⟩, .int .i64 0] 50)
            have A7 := At.lay V7 #[.bool false, .string ⟨#[]⟩, .int .i64 0] 50 DT
            clear DT
            revert D TK A6 A7
            generalize V7.alloc (.cells #[.bool false, .string ⟨#[]⟩, .int .i64 0] 50) = V8
            intro D TK A6 A7
            have DT := TK.le
            have hne : V0.heap.size ≠ V7.heap.size := by omega
            have hne' := Ne.symm hne
            have R6 := A6.row
            have F6 := A6.free
            have O6 := A6.lo
            have R7 := A7.row
            have F7 := A7.free
            have O7 := A7.lo
            refine wpAnyH_ready (rs := [8]) (by kernel_rfl) (by simp) ?_
            refine AllReadyH.cons rfl (fun K hK => ?_) AllReadyH.nil
            go_simp
            have D := D.putOther V0.heap.size 0 (rcells na X S) (by simp at O6 ⊢; omega)
            have TK := TK.putOther V0.heap.size 0 (rcells na X S) O6
            have A6 := A6.put (rcells na X S)
            have A7 := A7.other V0.heap.size (rcells na X S) hne'
            refine hK.out _ _ D (fun _ => ?_)
            clear hK K
            try simp only [Act.put, List.setIfInBounds_toArray, List.set_cons_zero, List.set_cons_succ]
            have R7 := A7.row
            have F7 := A7.free
            refine wpAnyH_ready (rs := [9]) (by kernel_rfl) (by simp) ?_
            refine AllReadyH.cons rfl (fun K hK => ?_) AllReadyH.nil
            go_simp
            have D := D.putOther V7.heap.size 0 (rcells nb Y S) (by simp at O7 ⊢; omega)
            have TK := TK.putOther V7.heap.size 0 (rcells nb Y S) O7
            have A7 := A7.put (rcells nb Y S)
            have A6 := A6.other V7.heap.size (rcells nb Y S) hne
            refine hK.out _ _ D (fun _ => ?_)
            clear hK K
            try simp only [Act.put, List.setIfInBounds_toArray, List.set_cons_zero, List.set_cons_succ]
            refine wpAnyH_done (by kernel_rfl) ?_ _
            go_wp2_with fail
            go_meet
            rw [splice_rcells] at A6 A7
            exact ⟨V0.heap.size, V7.heap.size, rfl, rfl, hne, A6, A7, TK⟩
        · skip
          go_simp
          refine hK.out _ _ (D.more _) (fun _ => ?_)
          clear hK K
          try simp only [Act.put, List.setIfInBounds_toArray, List.set_cons_zero, List.set_cons_succ]
          have D := D.more (.cells #[.bool false, .string ⟨#[]⟩, .int .i64 0] 50)
          have TK := TK.more (.cells #[.bool false, .string ⟨#[]⟩, .int .i64 0] 50)
          have L6 := A6.lt
          have A6 := A6.more (.cells #[.bool false, .string ⟨#[]⟩, .int .i64 0] 50)
          have A7 := At.lay V6 #[.bool false, .string ⟨#[]⟩, .int .i64 0] 50 DT
          clear DT
          revert D TK A6 A7
          generalize V6.alloc (.cells #[.bool false, .string ⟨#[]⟩, .int .i64 0] 50) = V9
          intro D TK A6 A7
          have DT := TK.le
          refine wpAnyH_ready (rs := [5]) (by kernel_rfl) (by simp) ?_
          refine AllReadyH.cons rfl (fun K hK => ?_) (AllReadyH.nil)
          · skip
            go_simp
            go_at_call 44
            refine (C2.out _).mono ?_
            rintro e V10 ⟨rfl, hb⟩
            have D := D.kept hb
            have TK := TK.kept hb
            have A6 := A6.kept hb
            have A7 := A7.kept hb
            clear hb
            have DT := TK.le
            go_wp2_with fail
            refine hK.out _ _ D (fun _ => ?_)
            clear hK K
            try simp only [Act.put, List.setIfInBounds_toArray, List.set_cons_zero, List.set_cons_succ]
            have hne : V0.heap.size ≠ V6.heap.size := by omega
            have hne' := Ne.symm hne
            have R6 := A6.row
            have F6 := A6.free
            have O6 := A6.lo
            have R7 := A7.row
            have F7 := A7.free
            have O7 := A7.lo
            refine wpAnyH_ready (rs := [8]) (by kernel_rfl) (by simp) ?_
            refine AllReadyH.cons rfl (fun K hK => ?_) AllReadyH.nil
            go_simp
            have D := D.putOther V0.heap.size 0 (rcells na X S) (by simp at O6 ⊢; omega)
            have TK := TK.putOther V0.heap.size 0 (rcells na X S) O6
            have A6 := A6.put (rcells na X S)
            have A7 := A7.other V0.heap.size (rcells na X S) hne'
            refine hK.out _ _ D (fun _ => ?_)
            clear hK K
            try simp only [Act.put, List.setIfInBounds_toArray, List.set_cons_zero, List.set_cons_succ]
            have R7 := A7.row
            have F7 := A7.free
            refine wpAnyH_ready (rs := [9]) (by kernel_rfl) (by simp) ?_
            refine AllReadyH.cons rfl (fun K hK => ?_) AllReadyH.nil
            go_simp
            have D := D.putOther V6.heap.size 0 (rcells nb Y S) (by simp at O7 ⊢; omega)
            have TK := TK.putOther V6.heap.size 0 (rcells nb Y S) O7
            have A7 := A7.put (rcells nb Y S)
            have A6 := A6.other V6.heap.size (rcells nb Y S) hne
            refine hK.out _ _ D (fun _ => ?_)
            clear hK K
            try simp only [Act.put, List.setIfInBounds_toArray, List.set_cons_zero, List.set_cons_succ]
            refine wpAnyH_done (by kernel_rfl) ?_ _
            go_wp2_with fail
            go_meet
            rw [splice_rcells] at A6 A7
            exact ⟨V0.heap.size, V6.heap.size, rfl, rfl, hne, A6, A7, TK⟩
      · skip
        go_simp
        refine hK.out _ _ (D.more _) (fun _ => ?_)
        clear hK K
        try simp only [Act.put, List.setIfInBounds_toArray, List.set_cons_zero, List.set_cons_succ]
        have D := D.more (.cells #[.bool false, .string ⟨#[]⟩, .int .i64 0] 50)
        have TK := TK.more (.cells #[.bool false, .string ⟨#[]⟩, .int .i64 0] 50)
        have A7 := At.lay V0 #[.bool false, .string ⟨#[]⟩, .int .i64 0] 50 DT
        clear DT
        revert D TK A7
        generalize V0.alloc (.cells #[.bool false, .string ⟨#[]⟩, .int .i64 0] 50) = V11
        intro D TK A7
        have DT := TK.le
        refine wpAnyH_ready (rs := [5, 6]) (by kernel_rfl) (by simp) ?_
        refine AllReadyH.cons rfl (fun K hK => ?_) (AllReadyH.cons rfl (fun K hK => ?_) (AllReadyH.nil))
        · skip
          go_simp
          go_at_call 44
          refine (C2.out _).mono ?_
          rintro e V12 ⟨rfl, hb⟩
          have D := D.kept hb
          have TK := TK.kept hb
          have A7 := A7.kept hb
          clear hb
          have DT := TK.le
          go_wp2_with fail
          refine hK.out _ _ D (fun _ => ?_)
          clear hK K
          try simp only [Act.put, List.setIfInBounds_toArray, List.set_cons_zero, List.set_cons_succ]
          refine wpAnyH_ready (rs := [6]) (by kernel_rfl) (by simp) ?_
          refine AllReadyH.cons rfl (fun K hK => ?_) (AllReadyH.nil)
          · skip
            go_simp
            refine hK.out _ _ (D.more _) (fun _ => ?_)
            clear hK K
            try simp only [Act.put, List.setIfInBounds_toArray, List.set_cons_zero, List.set_cons_succ]
            have D := D.more (.cells #[.bool false, .string ⟨#[]⟩, .int .i64 0] 50)
            have TK := TK.more (.cells #[.bool false, .string ⟨#[]⟩, .int .i64 0] 50)
            have L7 := A7.lt
            have A7 := A7.more (.cells #[.bool false, .string ⟨#[]⟩, .int .i64 0] 50)
            have A6 := At.lay V12 #[.bool false, .string ⟨#[]⟩, .int .i64 0] 50 DT
            clear DT
            revert D TK A7 A6
            generalize V12.alloc (.cells #[.bool false, .string ⟨#[]⟩, .int .i64 0] 50) = V13
            intro D TK A7 A6
            have DT := TK.le
            have hne : V12.heap.size ≠ V0.heap.size := by omega
            have hne' := Ne.symm hne
            have R6 := A6.row
            have F6 := A6.free
            have O6 := A6.lo
            have R7 := A7.row
            have F7 := A7.free
            have O7 := A7.lo
            refine wpAnyH_ready (rs := [8]) (by kernel_rfl) (by simp) ?_
            refine AllReadyH.cons rfl (fun K hK => ?_) AllReadyH.nil
            go_simp
            have D := D.putOther V12.heap.size 0 (rcells na X S) (by simp at O6 ⊢; omega)
            have TK := TK.putOther V12.heap.size 0 (rcells na X S) O6
            have A6 := A6.put (rcells na X S)
            have A7 := A7.other V12.heap.size (rcells na X S) hne'
            refine hK.out _ _ D (fun _ => ?_)
            clear hK K
            try simp only [Act.put, List.setIfInBounds_toArray, List.set_cons_zero, List.set_cons_succ]
            have R7 := A7.row
            have F7 := A7.free
            refine wpAnyH_ready (rs := [9]) (by kernel_rfl) (by simp) ?_
            refine AllReadyH.cons rfl (fun K hK => ?_) AllReadyH.nil
            go_simp
            have D := D.putOther V0.heap.size 0 (rcells nb Y S) (by simp at O7 ⊢; omega)
            have TK := TK.putOther V0.heap.size 0 (rcells nb Y S) O7
            have A7 := A7.put (rcells nb Y S)
            have A6 := A6.other V0.heap.size (rcells nb Y S) hne
            refine hK.out _ _ D (fun _ => ?_)
            clear hK K
            try simp only [Act.put, List.setIfInBounds_toArray, List.set_cons_zero, List.set_cons_succ]
            refine wpAnyH_done (by kernel_rfl) ?_ _
            go_wp2_with fail
            go_meet
            rw [splice_rcells] at A6 A7
            exact ⟨V12.heap.size, V0.heap.size, rfl, rfl, hne, A6, A7, TK⟩
        · skip
          go_simp
          refine hK.out _ _ (D.more _) (fun _ => ?_)
          clear hK K
          try simp only [Act.put, List.setIfInBounds_toArray, List.set_cons_zero, List.set_cons_succ]
          have D := D.more (.cells #[.bool false, .string ⟨#[]⟩, .int .i64 0] 50)
          have TK := TK.more (.cells #[.bool false, .string ⟨#[]⟩, .int .i64 0] 50)
          have L7 := A7.lt
          have A7 := A7.more (.cells #[.bool false, .string ⟨#[]⟩, .int .i64 0] 50)
          have A6 := At.lay V11 #[.bool false, .string ⟨#[]⟩, .int .i64 0] 50 DT
          clear DT
          revert D TK A7 A6
          generalize V11.alloc (.cells #[.bool false, .string ⟨#[]⟩, .int .i64 0] 50) = V14
          intro D TK A7 A6
          have DT := TK.le
          refine wpAnyH_ready (rs := [5]) (by kernel_rfl) (by simp) ?_
          refine AllReadyH.cons rfl (fun K hK => ?_) (AllReadyH.nil)
          · skip
            go_simp
            go_at_call 44
            refine (C2.out _).mono ?_
            rintro e V15 ⟨rfl, hb⟩
            have D := D.kept hb
            have TK := TK.kept hb
            have A7 := A7.kept hb
            have A6 := A6.kept hb
            clear hb
            have DT := TK.le
            go_wp2_with fail
            refine hK.out _ _ D (fun _ => ?_)
            clear hK K
            try simp only [Act.put, List.setIfInBounds_toArray, List.set_cons_zero, List.set_cons_succ]
            have hne : V11.heap.size ≠ V0.heap.size := by omega
            have hne' := Ne.symm hne
            have R6 := A6.row
            have F6 := A6.free
            have O6 := A6.lo
            have R7 := A7.row
            have F7 := A7.free
            have O7 := A7.lo
            refine wpAnyH_ready (rs := [8]) (by kernel_rfl) (by simp) ?_
            refine AllReadyH.cons rfl (fun K hK => ?_) AllReadyH.nil
            go_simp
            have D := D.putOther V11.heap.size 0 (rcells na X S) (by simp at O6 ⊢; omega)
            have TK := TK.putOther V11.heap.size 0 (rcells na X S) O6
            have A6 := A6.put (rcells na X S)
            have A7 := A7.other V11.heap.size (rcells na X S) hne'
            refine hK.out _ _ D (fun _ => ?_)
            clear hK K
            try simp only [Act.put, List.setIfInBounds_toArray, List.set_cons_zero, List.set_cons_succ]
            have R7 := A7.row
            have F7 := A7.free
            refine wpAnyH_ready (rs := [9]) (by kernel_rfl) (by simp) ?_
            refine AllReadyH.cons rfl (fun K hK => ?_) AllReadyH.nil
            go_simp
            have D := D.putOther V0.heap.size 0 (rcells nb Y S) (by simp at O7 ⊢; omega)
            have TK := TK.putOther V0.heap.size 0 (rcells nb Y S) O7
            have A7 := A7.put (rcells nb Y S)
            have A6 := A6.other V0.heap.size (rcells nb Y S) hne
            refine hK.out _ _ D (fun _ => ?_)
            clear hK K
            try simp only [Act.put, List.setIfInBounds_toArray, List.set_cons_zero, List.set_cons_succ]
            refine wpAnyH_done (by kernel_rfl) ?_ _
            go_wp2_with fail
            go_meet
            rw [splice_rcells] at A6 A7
            exact ⟨V11.heap.size, V0.heap.size, rfl, rfl, hne, A6, A7, TK⟩
    · skip
      go_simp
      refine hK.out _ _ (D.more _) (fun _ => ?_)
      clear hK K
      try simp only [Act.put, List.setIfInBounds_toArray, List.set_cons_zero, List.set_cons_succ]
      have D := D.more (.cells #[.bool false, .string ⟨#[]⟩, .int .i64 0] 50)
      have TK := TK.more (.cells #[.bool false, .string ⟨#[]⟩, .int .i64 0] 50)
      have A6 := At.lay V #[.bool false, .string ⟨#[]⟩, .int .i64 0] 50 DT
      clear DT
      revert D TK A6
      generalize V.alloc (.cells #[.bool false, .string ⟨#[]⟩, .int .i64 0] 50) = V16
      intro D TK A6
      have DT := TK.le
      refine wpAnyH_ready (rs := [2, 7]) (by kernel_rfl) (by simp) ?_
      refine AllReadyH.cons rfl (fun K hK => ?_) (AllReadyH.cons rfl (fun K hK => ?_) (AllReadyH.nil))
      · skip
        go_simp
        go_at_call 44
        refine (C1.out _).mono ?_
        rintro e V17 ⟨rfl, hb⟩
        have D := D.kept hb
        have TK := TK.kept hb
        have A6 := A6.kept hb
        clear hb
        have DT := TK.le
        go_wp2_with fail
        refine hK.out _ _ D (fun _ => ?_)
        clear hK K
        try simp only [Act.put, List.setIfInBounds_toArray, List.set_cons_zero, List.set_cons_succ]
        refine wpAnyH_ready (rs := [5, 7]) (by kernel_rfl) (by simp) ?_
        refine AllReadyH.cons rfl (fun K hK => ?_) (AllReadyH.cons rfl (fun K hK => ?_) (AllReadyH.nil))
        · skip
          go_simp
          go_at_call 44
          refine (C2.out _).mono ?_
          rintro e V18 ⟨rfl, hb⟩
          have D := D.kept hb
          have TK := TK.kept hb
          have A6 := A6.kept hb
          clear hb
          have DT := TK.le
          go_wp2_with fail
          refine hK.out _ _ D (fun _ => ?_)
          clear hK K
          try simp only [Act.put, List.setIfInBounds_toArray, List.set_cons_zero, List.set_cons_succ]
          refine wpAnyH_ready (rs := [7]) (by kernel_rfl) (by simp) ?_
          refine AllReadyH.cons rfl (fun K hK => ?_) (AllReadyH.nil)
          · skip
            go_simp
            refine hK.out _ _ (D.more _) (fun _ => ?_)
            clear hK K
            try simp only [Act.put, List.setIfInBounds_toArray, List.set_cons_zero, List.set_cons_succ]
            have D := D.more (.cells #[.bool false, .string ⟨#[]⟩, .int .i64 0] 50)
            have TK := TK.more (.cells #[.bool false, .string ⟨#[]⟩, .int .i64 0] 50)
            have L6 := A6.lt
            have A6 := A6.more (.cells #[.bool false, .string ⟨#[]⟩, .int .i64 0] 50)
            have A7 := At.lay V18 #[.bool false, .string ⟨#[]⟩, .int .i64 0] 50 DT
            clear DT
            revert D TK A6 A7
            generalize V18.alloc (.cells #[.bool false, .string ⟨#[]⟩, .int .i64 0] 50) = V19
            intro D TK A6 A7
            have DT := TK.le
            have hne : V.heap.size ≠ V18.heap.size := by omega
            have hne' := Ne.symm hne
            have R6 := A6.row
            have F6 := A6.free
            have O6 := A6.lo
            have R7 := A7.row
            have F7 := A7.free
            have O7 := A7.lo
            refine wpAnyH_ready (rs := [8]) (by kernel_rfl) (by simp) ?_
            refine AllReadyH.cons rfl (fun K hK => ?_) AllReadyH.nil
            go_simp
            have D := D.putOther V.heap.size 0 (rcells na X S) (by simp at O6 ⊢; omega)
            have TK := TK.putOther V.heap.size 0 (rcells na X S) O6
            have A6 := A6.put (rcells na X S)
            have A7 := A7.other V.heap.size (rcells na X S) hne'
            refine hK.out _ _ D (fun _ => ?_)
            clear hK K
            try simp only [Act.put, List.setIfInBounds_toArray, List.set_cons_zero, List.set_cons_succ]
            have R7 := A7.row
            have F7 := A7.free
            refine wpAnyH_ready (rs := [9]) (by kernel_rfl) (by simp) ?_
            refine AllReadyH.cons rfl (fun K hK => ?_) AllReadyH.nil
            go_simp
            have D := D.putOther V18.heap.size 0 (rcells nb Y S) (by simp at O7 ⊢; omega)
            have TK := TK.putOther V18.heap.size 0 (rcells nb Y S) O7
            have A7 := A7.put (rcells nb Y S)
            have A6 := A6.other V18.heap.size (rcells nb Y S) hne
            refine hK.out _ _ D (fun _ => ?_)
            clear hK K
            try simp only [Act.put, List.setIfInBounds_toArray, List.set_cons_zero, List.set_cons_succ]
            refine wpAnyH_done (by kernel_rfl) ?_ _
            go_wp2_with fail
            go_meet
            rw [splice_rcells] at A6 A7
            exact ⟨V.heap.size, V18.heap.size, rfl, rfl, hne, A6, A7, TK⟩
        · skip
          go_simp
          refine hK.out _ _ (D.more _) (fun _ => ?_)
          clear hK K
          try simp only [Act.put, List.setIfInBounds_toArray, List.set_cons_zero, List.set_cons_succ]
          have D := D.more (.cells #[.bool false, .string ⟨#[]⟩, .int .i64 0] 50)
          have TK := TK.more (.cells #[.bool false, .string ⟨#[]⟩, .int .i64 0] 50)
          have L6 := A6.lt
          have A6 := A6.more (.cells #[.bool false, .string ⟨#[]⟩, .int .i64 0] 50)
          have A7 := At.lay V17 #[.bool false, .string ⟨#[]⟩, .int .i64 0] 50 DT
          clear DT
          revert D TK A6 A7
          generalize V17.alloc (.cells #[.bool false, .string ⟨#[]⟩, .int .i64 0] 50) = V20
          intro D TK A6 A7
          have DT := TK.le
          refine wpAnyH_ready (rs := [5]) (by kernel_rfl) (by simp) ?_
          refine AllReadyH.cons rfl (fun K hK => ?_) (AllReadyH.nil)
          · skip
            go_simp
            go_at_call 44
            refine (C2.out _).mono ?_
            rintro e V21 ⟨rfl, hb⟩
            have D := D.kept hb
            have TK := TK.kept hb
            have A6 := A6.kept hb
            have A7 := A7.kept hb
            clear hb
            have DT := TK.le
            go_wp2_with fail
            refine hK.out _ _ D (fun _ => ?_)
            clear hK K
            try simp only [Act.put, List.setIfInBounds_toArray, List.set_cons_zero, List.set_cons_succ]
            have hne : V.heap.size ≠ V17.heap.size := by omega
            have hne' := Ne.symm hne
            have R6 := A6.row
            have F6 := A6.free
            have O6 := A6.lo
            have R7 := A7.row
            have F7 := A7.free
            have O7 := A7.lo
            refine wpAnyH_ready (rs := [8]) (by kernel_rfl) (by simp) ?_
            refine AllReadyH.cons rfl (fun K hK => ?_) AllReadyH.nil
            go_simp
            have D := D.putOther V.heap.size 0 (rcells na X S) (by simp at O6 ⊢; omega)
            have TK := TK.putOther V.heap.size 0 (rcells na X S) O6
            have A6 := A6.put (rcells na X S)
            have A7 := A7.other V.heap.size (rcells na X S) hne'
            refine hK.out _ _ D (fun _ => ?_)
            clear hK K
            try simp only [Act.put, List.setIfInBounds_toArray, List.set_cons_zero, List.set_cons_succ]
            have R7 := A7.row
            have F7 := A7.free
            refine wpAnyH_ready (rs := [9]) (by kernel_rfl) (by simp) ?_
            refine AllReadyH.cons rfl (fun K hK => ?_) AllReadyH.nil
            go_simp
            have D := D.putOther V17.heap.size 0 (rcells nb Y S) (by simp at O7 ⊢; omega)
            have TK := TK.putOther V17.heap.size 0 (rcells nb Y S) O7
            have A7 := A7.put (rcells nb Y S)
            have A6 := A6.other V17.heap.size (rcells nb Y S) hne
            refine hK.out _ _ D (fun _ => ?_)
            clear hK K
            try simp only [Act.put, List.setIfInBounds_toArray, List.set_cons_zero, List.set_cons_succ]
            refine wpAnyH_done (by kernel_rfl) ?_ _
            go_wp2_with fail
            go_meet
            rw [splice_rcells] at A6 A7
            exact ⟨V.heap.size, V17.heap.size, rfl, rfl, hne, A6, A7, TK⟩
      · skip
        go_simp
        refine hK.out _ _ (D.more _) (fun _ => ?_)
        clear hK K
        try simp only [Act.put, List.setIfInBounds_toArray, List.set_cons_zero, List.set_cons_succ]
        have D := D.more (.cells #[.bool false, .string ⟨#[]⟩, .int .i64 0] 50)
        have TK := TK.more (.cells #[.bool false, .string ⟨#[]⟩, .int .i64 0] 50)
        have L6 := A6.lt
        have A6 := A6.more (.cells #[.bool false, .string ⟨#[]⟩, .int .i64 0] 50)
        have A7 := At.lay V16 #[.bool false, .string ⟨#[]⟩, .int .i64 0] 50 DT
        clear DT
        revert D TK A6 A7
        generalize V16.alloc (.cells #[.bool false, .string ⟨#[]⟩, .int .i64 0] 50) = V22
        intro D TK A6 A7
        have DT := TK.le
        refine wpAnyH_ready (rs := [2]) (by kernel_rfl) (by simp) ?_
        refine AllReadyH.cons rfl (fun K hK => ?_) (AllReadyH.nil)
        · skip
          go_simp
          go_at_call 44
          refine (C1.out _).mono ?_
          rintro e V23 ⟨rfl, hb⟩
          have D := D.kept hb
          have TK := TK.kept hb
          have A6 := A6.kept hb
          have A7 := A7.kept hb
          clear hb
          have DT := TK.le
          go_wp2_with fail
          refine hK.out _ _ D (fun _ => ?_)
          clear hK K
          try simp only [Act.put, List.setIfInBounds_toArray, List.set_cons_zero, List.set_cons_succ]
          refine wpAnyH_ready (rs := [5]) (by kernel_rfl) (by simp) ?_
          refine AllReadyH.cons rfl (fun K hK => ?_) (AllReadyH.nil)
          · skip
            go_simp
            go_at_call 44
            refine (C2.out _).mono ?_
            rintro e V24 ⟨rfl, hb⟩
            have D := D.kept hb
            have TK := TK.kept hb
            have A6 := A6.kept hb
            have A7 := A7.kept hb
            clear hb
            have DT := TK.le
            go_wp2_with fail
            refine hK.out _ _ D (fun _ => ?_)
            clear hK K
            try simp only [Act.put, List.setIfInBounds_toArray, List.set_cons_zero, List.set_cons_succ]
            have hne : V.heap.size ≠ V16.heap.size := by omega
            have hne' := Ne.symm hne
            have R6 := A6.row
            have F6 := A6.free
            have O6 := A6.lo
            have R7 := A7.row
            have F7 := A7.free
            have O7 := A7.lo
            refine wpAnyH_ready (rs := [8]) (by kernel_rfl) (by simp) ?_
            refine AllReadyH.cons rfl (fun K hK => ?_) AllReadyH.nil
            go_simp
            have D := D.putOther V.heap.size 0 (rcells na X S) (by simp at O6 ⊢; omega)
            have TK := TK.putOther V.heap.size 0 (rcells na X S) O6
            have A6 := A6.put (rcells na X S)
            have A7 := A7.other V.heap.size (rcells na X S) hne'
            refine hK.out _ _ D (fun _ => ?_)
            clear hK K
            try simp only [Act.put, List.setIfInBounds_toArray, List.set_cons_zero, List.set_cons_succ]
            have R7 := A7.row
            have F7 := A7.free
            refine wpAnyH_ready (rs := [9]) (by kernel_rfl) (by simp) ?_
            refine AllReadyH.cons rfl (fun K hK => ?_) AllReadyH.nil
            go_simp
            have D := D.putOther V16.heap.size 0 (rcells nb Y S) (by simp at O7 ⊢; omega)
            have TK := TK.putOther V16.heap.size 0 (rcells nb Y S) O7
            have A7 := A7.put (rcells nb Y S)
            have A6 := A6.other V16.heap.size (rcells nb Y S) hne
            refine hK.out _ _ D (fun _ => ?_)
            clear hK K
            try simp only [Act.put, List.setIfInBounds_toArray, List.set_cons_zero, List.set_cons_succ]
            refine wpAnyH_done (by kernel_rfl) ?_ _
            go_wp2_with fail
            go_meet
            rw [splice_rcells] at A6 A7
            exact ⟨V.heap.size, V16.heap.size, rfl, rfl, hne, A6, A7, TK⟩
    · skip
      go_simp
      refine hK.out _ _ (D.more _) (fun _ => ?_)
      clear hK K
      try simp only [Act.put, List.setIfInBounds_toArray, List.set_cons_zero, List.set_cons_succ]
      have D := D.more (.cells #[.bool false, .string ⟨#[]⟩, .int .i64 0] 50)
      have TK := TK.more (.cells #[.bool false, .string ⟨#[]⟩, .int .i64 0] 50)
      have A7 := At.lay V #[.bool false, .string ⟨#[]⟩, .int .i64 0] 50 DT
      clear DT
      revert D TK A7
      generalize V.alloc (.cells #[.bool false, .string ⟨#[]⟩, .int .i64 0] 50) = V25
      intro D TK A7
      have DT := TK.le
      refine wpAnyH_ready (rs := [2, 6]) (by kernel_rfl) (by simp) ?_
      refine AllReadyH.cons rfl (fun K hK => ?_) (AllReadyH.cons rfl (fun K hK => ?_) (AllReadyH.nil))
      · skip
        go_simp
        go_at_call 44
        refine (C1.out _).mono ?_
        rintro e V26 ⟨rfl, hb⟩
        have D := D.kept hb
        have TK := TK.kept hb
        have A7 := A7.kept hb
        clear hb
        have DT := TK.le
        go_wp2_with fail
        refine hK.out _ _ D (fun _ => ?_)
        clear hK K
        try simp only [Act.put, List.setIfInBounds_toArray, List.set_cons_zero, List.set_cons_succ]
        refine wpAnyH_ready (rs := [5, 6]) (by kernel_rfl) (by simp) ?_
        refine AllReadyH.cons rfl (fun K hK => ?_) (AllReadyH.cons rfl (fun K hK => ?_) (AllReadyH.nil))
        · skip
          go_simp
          go_at_call 44
          refine (C2.out _).mono ?_
          rintro e V27 ⟨rfl, hb⟩
          have D := D.kept hb
          have TK := TK.kept hb
          have A7 := A7.kept hb
          clear hb
          have DT := TK.le
          go_wp2_with fail
          refine hK.out _ _ D (fun _ => ?_)
          clear hK K
          try simp only [Act.put, List.setIfInBounds_toArray, List.set_cons_zero, List.set_cons_succ]
          refine wpAnyH_ready (rs := [6]) (by kernel_rfl) (by simp) ?_
          refine AllReadyH.cons rfl (fun K hK => ?_) (AllReadyH.nil)
          · skip
            go_simp
            refine hK.out _ _ (D.more _) (fun _ => ?_)
            clear hK K
            try simp only [Act.put, List.setIfInBounds_toArray, List.set_cons_zero, List.set_cons_succ]
            have D := D.more (.cells #[.bool false, .string ⟨#[]⟩, .int .i64 0] 50)
            have TK := TK.more (.cells #[.bool false, .string ⟨#[]⟩, .int .i64 0] 50)
            have L7 := A7.lt
            have A7 := A7.more (.cells #[.bool false, .string ⟨#[]⟩, .int .i64 0] 50)
            have A6 := At.lay V27 #[.bool false, .string ⟨#[]⟩, .int .i64 0] 50 DT
            clear DT
            revert D TK A7 A6
            generalize V27.alloc (.cells #[.bool false, .string ⟨#[]⟩, .int .i64 0] 50) = V28
            intro D TK A7 A6
            have DT := TK.le
            have hne : V27.heap.size ≠ V.heap.size := by omega
            have hne' := Ne.symm hne
            have R6 := A6.row
            have F6 := A6.free
            have O6 := A6.lo
            have R7 := A7.row
            have F7 := A7.free
            have O7 := A7.lo
            refine wpAnyH_ready (rs := [8]) (by kernel_rfl) (by simp) ?_
            refine AllReadyH.cons rfl (fun K hK => ?_) AllReadyH.nil
            go_simp
            have D := D.putOther V27.heap.size 0 (rcells na X S) (by simp at O6 ⊢; omega)
            have TK := TK.putOther V27.heap.size 0 (rcells na X S) O6
            have A6 := A6.put (rcells na X S)
            have A7 := A7.other V27.heap.size (rcells na X S) hne'
            refine hK.out _ _ D (fun _ => ?_)
            clear hK K
            try simp only [Act.put, List.setIfInBounds_toArray, List.set_cons_zero, List.set_cons_succ]
            have R7 := A7.row
            have F7 := A7.free
            refine wpAnyH_ready (rs := [9]) (by kernel_rfl) (by simp) ?_
            refine AllReadyH.cons rfl (fun K hK => ?_) AllReadyH.nil
            go_simp
            have D := D.putOther V.heap.size 0 (rcells nb Y S) (by simp at O7 ⊢; omega)
            have TK := TK.putOther V.heap.size 0 (rcells nb Y S) O7
            have A7 := A7.put (rcells nb Y S)
            have A6 := A6.other V.heap.size (rcells nb Y S) hne
            refine hK.out _ _ D (fun _ => ?_)
            clear hK K
            try simp only [Act.put, List.setIfInBounds_toArray, List.set_cons_zero, List.set_cons_succ]
            refine wpAnyH_done (by kernel_rfl) ?_ _
            go_wp2_with fail
            go_meet
            rw [splice_rcells] at A6 A7
            exact ⟨V27.heap.size, V.heap.size, rfl, rfl, hne, A6, A7, TK⟩
        · skip
          go_simp
          refine hK.out _ _ (D.more _) (fun _ => ?_)
          clear hK K
          try simp only [Act.put, List.setIfInBounds_toArray, List.set_cons_zero, List.set_cons_succ]
          have D := D.more (.cells #[.bool false, .string ⟨#[]⟩, .int .i64 0] 50)
          have TK := TK.more (.cells #[.bool false, .string ⟨#[]⟩, .int .i64 0] 50)
          have L7 := A7.lt
          have A7 := A7.more (.cells #[.bool false, .string ⟨#[]⟩, .int .i64 0] 50)
          have A6 := At.lay V26 #[.bool false, .string ⟨#[]⟩, .int .i64 0] 50 DT
          clear DT
          revert D TK A7 A6
          generalize V26.alloc (.cells #[.bool false, .string ⟨#[]⟩, .int .i64 0] 50) = V29
          intro D TK A7 A6
          have DT := TK.le
          refine wpAnyH_ready (rs := [5]) (by kernel_rfl) (by simp) ?_
          refine AllReadyH.cons rfl (fun K hK => ?_) (AllReadyH.nil)
          · skip
            go_simp
            go_at_call 44
            refine (C2.out _).mono ?_
            rintro e V30 ⟨rfl, hb⟩
            have D := D.kept hb
            have TK := TK.kept hb
            have A7 := A7.kept hb
            have A6 := A6.kept hb
            clear hb
            have DT := TK.le
            go_wp2_with fail
            refine hK.out _ _ D (fun _ => ?_)
            clear hK K
            try simp only [Act.put, List.setIfInBounds_toArray, List.set_cons_zero, List.set_cons_succ]
            have hne : V26.heap.size ≠ V.heap.size := by omega
            have hne' := Ne.symm hne
            have R6 := A6.row
            have F6 := A6.free
            have O6 := A6.lo
            have R7 := A7.row
            have F7 := A7.free
            have O7 := A7.lo
            refine wpAnyH_ready (rs := [8]) (by kernel_rfl) (by simp) ?_
            refine AllReadyH.cons rfl (fun K hK => ?_) AllReadyH.nil
            go_simp
            have D := D.putOther V26.heap.size 0 (rcells na X S) (by simp at O6 ⊢; omega)
            have TK := TK.putOther V26.heap.size 0 (rcells na X S) O6
            have A6 := A6.put (rcells na X S)
            have A7 := A7.other V26.heap.size (rcells na X S) hne'
            refine hK.out _ _ D (fun _ => ?_)
            clear hK K
            try simp only [Act.put, List.setIfInBounds_toArray, List.set_cons_zero, List.set_cons_succ]
            have R7 := A7.row
            have F7 := A7.free
            refine wpAnyH_ready (rs := [9]) (by kernel_rfl) (by simp) ?_
            refine AllReadyH.cons rfl (fun K hK => ?_) AllReadyH.nil
            go_simp
            have D := D.putOther V.heap.size 0 (rcells nb Y S) (by simp at O7 ⊢; omega)
            have TK := TK.putOther V.heap.size 0 (rcells nb Y S) O7
            have A7 := A7.put (rcells nb Y S)
            have A6 := A6.other V.heap.size (rcells nb Y S) hne
            refine hK.out _ _ D (fun _ => ?_)
            clear hK K
            try simp only [Act.put, List.setIfInBounds_toArray, List.set_cons_zero, List.set_cons_succ]
            refine wpAnyH_done (by kernel_rfl) ?_ _
            go_wp2_with fail
            go_meet
            rw [splice_rcells] at A6 A7
            exact ⟨V26.heap.size, V.heap.size, rfl, rfl, hne, A6, A7, TK⟩
      · skip
        go_simp
        refine hK.out _ _ (D.more _) (fun _ => ?_)
        clear hK K
        try simp only [Act.put, List.setIfInBounds_toArray, List.set_cons_zero, List.set_cons_succ]
        have D := D.more (.cells #[.bool false, .string ⟨#[]⟩, .int .i64 0] 50)
        have TK := TK.more (.cells #[.bool false, .string ⟨#[]⟩, .int .i64 0] 50)
        have L7 := A7.lt
        have A7 := A7.more (.cells #[.bool false, .string ⟨#[]⟩, .int .i64 0] 50)
        have A6 := At.lay V25 #[.bool false, .string ⟨#[]⟩, .int .i64 0] 50 DT
        clear DT
        revert D TK A7 A6
        generalize V25.alloc (.cells #[.bool false, .string ⟨#[]⟩, .int .i64 0] 50) = V31
        intro D TK A7 A6
        have DT := TK.le
        refine wpAnyH_ready (rs := [2]) (by kernel_rfl) (by simp) ?_
        refine AllReadyH.cons rfl (fun K hK => ?_) (AllReadyH.nil)
        · skip
          go_simp
          go_at_call 44
          refine (C1.out _).mono ?_
          rintro e V32 ⟨rfl, hb⟩
          have D := D.kept hb
          have TK := TK.kept hb
          have A7 := A7.kept hb
          have A6 := A6.kept hb
          clear hb
          have DT := TK.le
          go_wp2_with fail
          refine hK.out _ _ D (fun _ => ?_)
          clear hK K
          try simp only [Act.put, List.setIfInBounds_toArray, List.set_cons_zero, List.set_cons_succ]
          refine wpAnyH_ready (rs := [5]) (by kernel_rfl) (by simp) ?_
          refine AllReadyH.cons rfl (fun K hK => ?_) (AllReadyH.nil)
          · skip
            go_simp
            go_at_call 44
            refine (C2.out _).mono ?_
            rintro e V33 ⟨rfl, hb⟩
            have D := D.kept hb
            have TK := TK.kept hb
            have A7 := A7.kept hb
            have A6 := A6.kept hb
            clear hb
            have DT := TK.le
            go_wp2_with fail
            refine hK.out _ _ D (fun _ => ?_)
            clear hK K
            try simp only [Act.put, List.setIfInBounds_toArray, List.set_cons_zero, List.set_cons_succ]
            have hne : V25.heap.size ≠ V.heap.size := by omega
            have hne' := Ne.symm hne
            have R6 := A6.row
            have F6 := A6.free
            have O6 := A6.lo
            have R7 := A7.row
            have F7 := A7.free
            have O7 := A7.lo
            refine wpAnyH_ready (rs := [8]) (by kernel_rfl) (by simp) ?_
            refine AllReadyH.cons rfl (fun K hK => ?_) AllReadyH.nil
            go_simp
            have D := D.putOther V25.heap.size 0 (rcells na X S) (by simp at O6 ⊢; omega)
            have TK := TK.putOther V25.heap.size 0 (rcells na X S) O6
            have A6 := A6.put (rcells na X S)
            have A7 := A7.other V25.heap.size (rcells na X S) hne'
            refine hK.out _ _ D (fun _ => ?_)
            clear hK K
            try simp only [Act.put, List.setIfInBounds_toArray, List.set_cons_zero, List.set_cons_succ]
            have R7 := A7.row
            have F7 := A7.free
            refine wpAnyH_ready (rs := [9]) (by kernel_rfl) (by simp) ?_
            refine AllReadyH.cons rfl (fun K hK => ?_) AllReadyH.nil
            go_simp
            have D := D.putOther V.heap.size 0 (rcells nb Y S) (by simp at O7 ⊢; omega)
            have TK := TK.putOther V.heap.size 0 (rcells nb Y S) O7
            have A7 := A7.put (rcells nb Y S)
            have A6 := A6.other V.heap.size (rcells nb Y S) hne
            refine hK.out _ _ D (fun _ => ?_)
            clear hK K
            try simp only [Act.put, List.setIfInBounds_toArray, List.set_cons_zero, List.set_cons_succ]
            refine wpAnyH_done (by kernel_rfl) ?_ _
            go_wp2_with fail
            go_meet
            rw [splice_rcells] at A6 A7
            exact ⟨V25.heap.size, V.heap.size, rfl, rfl, hne, A6, A7, TK⟩
  case rest =>
    obtain ⟨p6, p7, rfl, rfl, hne, A6, A7, TK⟩ := hcut
    have c60 := At.c0 A6
    have c61 := At.c1 A6
    have c70 := At.c0 A7
    have c71 := At.c1 A7
    clear C1 C2 hS hna hnb T0 TK0 D0 hS1
    by_cases hn : na = nb
    · subst hn
      have hq : (na == na) = true := beq_self_eq_true _
      have HR := Lib.hid (show plusN na X na Y = (na, X + Y) by unfold plusN; rw [if_pos rfl])
      have hd : dl (X + Y) ≤ 1000 := Nat.le_trans (dl_le_of (k := 63) (by decide) (by have h1 : X < 10 ^ 62 := lt_of_dl hX (by decide); have h2 : Y < 10 ^ 62 := lt_of_dl hY (by decide); omega)) (by decide)
      have SU := Lib.hid (fun w => sum_any X Y w (by omega) (by omega))
      have MA := Lib.hid (fun w => made_ds na (X + Y) S w hd)
      clear hd
      go_wp2

      refine wp_region_held_drew (S := PlS w p6 p7 (rcells na X S) (rcells na Y S)) (by kernel_rfl) ⟨A6.drew, A7.drew⟩ (fun hHeld => ?_)
      have A6 := A6.drew
      have A7 := A7.drew
      have TK := TK.drew
      refine wpAnyH_take (i := 0) (v := Value.pointer (some ⟨p6, 0, none⟩)) rfl (by kernel_rfl) (by kernel_rfl) (by kernel_rfl) (fun _ _ _ h => h) (Or.inl ⟨by rfl, fun W T => ?_⟩) (by assumption) ?_
      · go_simp
      try simp only [Act.put, List.setIfInBounds_toArray, List.set_cons_zero, List.set_cons_succ]
      refine wpAnyH_take (i := 1) (v := .bool na) rfl (by kernel_rfl) (by kernel_rfl) (by kernel_rfl) (fun _ _ _ h => h) (Or.inl ⟨by rfl, fun W T => ?_⟩) (by assumption) ?_
      · have c60 := At.c0 T.a; have c61 := At.c1 T.a; have c70 := At.c0 T.b; have c71 := At.c1 T.b; go_simp
      try simp only [Act.put, List.setIfInBounds_toArray, List.set_cons_zero, List.set_cons_succ]
      refine wpAnyH_take (i := 2) (v := Value.pointer (some ⟨p6, 1, none⟩)) rfl (by kernel_rfl) (by kernel_rfl) (by kernel_rfl) (fun _ _ _ h => h) (Or.inl ⟨by rfl, fun W T => ?_⟩) (by assumption) ?_
      · go_simp
      try simp only [Act.put, List.setIfInBounds_toArray, List.set_cons_zero, List.set_cons_succ]
      refine wpAnyH_take (i := 3) (v := .string ⟨(ds X).toArray⟩) rfl (by kernel_rfl) (by kernel_rfl) (by kernel_rfl) (fun _ _ _ h => h) (Or.inl ⟨by rfl, fun W T => ?_⟩) (by assumption) ?_
      · have c60 := At.c0 T.a; have c61 := At.c1 T.a; have c70 := At.c0 T.b; have c71 := At.c1 T.b; go_simp
      try simp only [Act.put, List.setIfInBounds_toArray, List.set_cons_zero, List.set_cons_succ]
      refine wpAnyH_take (i := 4) (v := Value.pointer (some ⟨p7, 1, none⟩)) rfl (by kernel_rfl) (by kernel_rfl) (by kernel_rfl) (fun _ _ _ h => h) (Or.inl ⟨by rfl, fun W T => ?_⟩) (by assumption) ?_
      · go_simp
      try simp only [Act.put, List.setIfInBounds_toArray, List.set_cons_zero, List.set_cons_succ]
      refine wpAnyH_take (i := 5) (v := .string ⟨(ds Y).toArray⟩) rfl (by kernel_rfl) (by kernel_rfl) (by kernel_rfl) (fun _ _ _ h => h) (Or.inl ⟨by rfl, fun W T => ?_⟩) (by assumption) ?_
      · have c60 := At.c0 T.a; have c61 := At.c1 T.a; have c70 := At.c0 T.b; have c71 := At.c1 T.b; go_simp
      try simp only [Act.put, List.setIfInBounds_toArray, List.set_cons_zero, List.set_cons_succ]
      refine wpAnyH_take (i := 7) (v := .int .i64 S) rfl (by kernel_rfl) (by kernel_rfl) (by kernel_rfl) (fun _ _ _ h => h) (Or.inl ⟨by rfl, fun W T => ?_⟩) (by assumption) ?_
      · go_simp
      try simp only [Act.put, List.setIfInBounds_toArray, List.set_cons_zero, List.set_cons_succ]
      refine wpAnyH_ready (rs := [6]) (by kernel_rfl) (by simp) ?_
      refine AllReadyH.cons rfl (fun K hK => ?_) AllReadyH.nil
      go_simp
      go_at_call 48
      refine (SU.out _).mono ?_
      rintro e wc ⟨rfl, hb⟩
      have A6 := A6.kept hb
      have A7 := A7.kept hb
      have TK := TK.kept hb
      clear hb
      go_wp2_with fail
      refine hK.out _ _ ⟨A6, A7⟩ (fun _ => ?_)
      clear hK K
      try simp only [Act.put, List.setIfInBounds_toArray, List.set_cons_zero, List.set_cons_succ]
      refine wpAnyH_ready (rs := [8]) (by kernel_rfl) (by simp) ?_
      refine AllReadyH.cons rfl (fun K hK => ?_) AllReadyH.nil
      go_simp
      go_at_call 47
      refine (MA.out _).mono ?_
      rintro e wc ⟨rfl, hb⟩
      have A6 := A6.kept hb
      have A7 := A7.kept hb
      have TK := TK.kept hb
      clear hb
      go_wp2_with fail
      refine hK.out _ _ ⟨A6, A7⟩ (fun _ => ?_)
      clear hK K
      try simp only [Act.put, List.setIfInBounds_toArray, List.set_cons_zero, List.set_cons_succ]
      have r4 : rowOf _ (w.heap.size + 1 + 1) = _ := TK.row 2 _ rfl
      have f4 : freeOf _ (w.heap.size + 1 + 1) = _ := TK.fr 2 rfl
      have o6 := A6.lo
      have o7 := A7.lo
      refine wpAnyH_ready (rs := [9]) (by kernel_rfl) (by simp) ?_
      refine AllReadyH.cons rfl (fun K hK => ?_) AllReadyH.nil
      go_simp
      refine hK.out _ _ ⟨A6.other _ _ (by omega), A7.other _ _ (by omega)⟩ (fun _ => ?_)
      refine wpAnyH_done (by kernel_rfl) ?_ _
      go_wp2
      refine ret_row (b := w.heap.size + 1 + 1) (C := rcells (sgn na (X + Y)) (X + Y) S) rfl rtRef rfl ?_ rfl ⟨by first | rfl | rw [HR.out], TK.below.putRow (by omega) _ _⟩
      go_simp

    · have hq : (na == nb) = false := by simpa using hn
      by_cases hl : X < Y
      · have HR := Lib.hid (show plusN na X nb Y = (nb, Y - X) by unfold plusN; rw [if_neg hn, if_neg (by omega)])
        have LE0 := fun w => less_any X Y w (by omega) (by omega)
        rw [decide_eq_true hl] at LE0
        have LE := Lib.hid LE0
        have hd : dl (Y - X) ≤ 1000 := Nat.le_trans (dl_mono (Nat.sub_le _ _)) (by omega)
        have DI := Lib.hid (fun w => difference_any Y X w (by omega) (by omega))
        have MA := Lib.hid (fun w => made_ds nb (Y - X) S w hd)
        clear hd LE0
        go_wp2_with (go_at_call 86; refine (LE.out _).mono ?_; rintro e wl ⟨rfl, hwl⟩; obtain rfl := hwl.symm)

        refine wp_region_held_drew (S := PlS w p6 p7 (rcells na X S) (rcells nb Y S)) (by kernel_rfl) ⟨A6.drew, A7.drew⟩ (fun hHeld => ?_)
        have A6 := A6.drew
        have A7 := A7.drew
        have TK := TK.drew
        refine wpAnyH_take (i := 0) (v := Value.pointer (some ⟨p7, 0, none⟩)) rfl (by kernel_rfl) (by kernel_rfl) (by kernel_rfl) (fun _ _ _ h => h) (Or.inl ⟨by rfl, fun W T => ?_⟩) (by assumption) ?_
        · go_simp
        try simp only [Act.put, List.setIfInBounds_toArray, List.set_cons_zero, List.set_cons_succ]
        refine wpAnyH_take (i := 1) (v := .bool nb) rfl (by kernel_rfl) (by kernel_rfl) (by kernel_rfl) (fun _ _ _ h => h) (Or.inl ⟨by rfl, fun W T => ?_⟩) (by assumption) ?_
        · have c60 := At.c0 T.a; have c61 := At.c1 T.a; have c70 := At.c0 T.b; have c71 := At.c1 T.b; go_simp
        try simp only [Act.put, List.setIfInBounds_toArray, List.set_cons_zero, List.set_cons_succ]
        refine wpAnyH_take (i := 2) (v := Value.pointer (some ⟨p7, 1, none⟩)) rfl (by kernel_rfl) (by kernel_rfl) (by kernel_rfl) (fun _ _ _ h => h) (Or.inl ⟨by rfl, fun W T => ?_⟩) (by assumption) ?_
        · go_simp
        try simp only [Act.put, List.setIfInBounds_toArray, List.set_cons_zero, List.set_cons_succ]
        refine wpAnyH_take (i := 3) (v := .string ⟨(ds Y).toArray⟩) rfl (by kernel_rfl) (by kernel_rfl) (by kernel_rfl) (fun _ _ _ h => h) (Or.inl ⟨by rfl, fun W T => ?_⟩) (by assumption) ?_
        · have c60 := At.c0 T.a; have c61 := At.c1 T.a; have c70 := At.c0 T.b; have c71 := At.c1 T.b; go_simp
        try simp only [Act.put, List.setIfInBounds_toArray, List.set_cons_zero, List.set_cons_succ]
        refine wpAnyH_take (i := 4) (v := Value.pointer (some ⟨p6, 1, none⟩)) rfl (by kernel_rfl) (by kernel_rfl) (by kernel_rfl) (fun _ _ _ h => h) (Or.inl ⟨by rfl, fun W T => ?_⟩) (by assumption) ?_
        · go_simp
        try simp only [Act.put, List.setIfInBounds_toArray, List.set_cons_zero, List.set_cons_succ]
        refine wpAnyH_take (i := 5) (v := .string ⟨(ds X).toArray⟩) rfl (by kernel_rfl) (by kernel_rfl) (by kernel_rfl) (fun _ _ _ h => h) (Or.inl ⟨by rfl, fun W T => ?_⟩) (by assumption) ?_
        · have c60 := At.c0 T.a; have c61 := At.c1 T.a; have c70 := At.c0 T.b; have c71 := At.c1 T.b; go_simp
        try simp only [Act.put, List.setIfInBounds_toArray, List.set_cons_zero, List.set_cons_succ]
        refine wpAnyH_take (i := 7) (v := .int .i64 S) rfl (by kernel_rfl) (by kernel_rfl) (by kernel_rfl) (fun _ _ _ h => h) (Or.inl ⟨by rfl, fun W T => ?_⟩) (by assumption) ?_
        · go_simp
        try simp only [Act.put, List.setIfInBounds_toArray, List.set_cons_zero, List.set_cons_succ]
        refine wpAnyH_ready (rs := [6]) (by kernel_rfl) (by simp) ?_
        refine AllReadyH.cons rfl (fun K hK => ?_) AllReadyH.nil
        go_simp
        go_at_call 87
        refine (DI.out _).mono ?_
        rintro e wc ⟨rfl, hb⟩
        have A6 := A6.kept hb
        have A7 := A7.kept hb
        have TK := TK.kept hb
        clear hb
        go_wp2_with fail
        refine hK.out _ _ ⟨A6, A7⟩ (fun _ => ?_)
        clear hK K
        try simp only [Act.put, List.setIfInBounds_toArray, List.set_cons_zero, List.set_cons_succ]
        refine wpAnyH_ready (rs := [8]) (by kernel_rfl) (by simp) ?_
        refine AllReadyH.cons rfl (fun K hK => ?_) AllReadyH.nil
        go_simp
        go_at_call 47
        refine (MA.out _).mono ?_
        rintro e wc ⟨rfl, hb⟩
        have A6 := A6.kept hb
        have A7 := A7.kept hb
        have TK := TK.kept hb
        clear hb
        go_wp2_with fail
        refine hK.out _ _ ⟨A6, A7⟩ (fun _ => ?_)
        clear hK K
        try simp only [Act.put, List.setIfInBounds_toArray, List.set_cons_zero, List.set_cons_succ]
        have r4 : rowOf _ (w.heap.size + 1 + 1) = _ := TK.row 2 _ rfl
        have f4 : freeOf _ (w.heap.size + 1 + 1) = _ := TK.fr 2 rfl
        have o6 := A6.lo
        have o7 := A7.lo
        refine wpAnyH_ready (rs := [9]) (by kernel_rfl) (by simp) ?_
        refine AllReadyH.cons rfl (fun K hK => ?_) AllReadyH.nil
        go_simp
        refine hK.out _ _ ⟨A6.other _ _ (by omega), A7.other _ _ (by omega)⟩ (fun _ => ?_)
        refine wpAnyH_done (by kernel_rfl) ?_ _
        go_wp2
        refine ret_row (b := w.heap.size + 1 + 1) (C := rcells (sgn nb (Y - X)) (Y - X) S) rfl rtRef rfl ?_ rfl ⟨by first | rfl | rw [HR.out], TK.below.putRow (by omega) _ _⟩
        go_simp

      · have HR := Lib.hid (show plusN na X nb Y = (na, X - Y) by unfold plusN; rw [if_neg hn, if_pos (by omega)])
        have LE0 := fun w => less_any X Y w (by omega) (by omega)
        rw [decide_eq_false hl] at LE0
        have LE := Lib.hid LE0
        have hd : dl (X - Y) ≤ 1000 := Nat.le_trans (dl_mono (Nat.sub_le _ _)) (by omega)
        have DI := Lib.hid (fun w => difference_any X Y w (by omega) (by omega))
        have MA := Lib.hid (fun w => made_ds na (X - Y) S w hd)
        clear hd LE0
        go_wp2_with (go_at_call 86; refine (LE.out _).mono ?_; rintro e wl ⟨rfl, hwl⟩; obtain rfl := hwl.symm)

        refine wp_region_held_drew (S := PlS w p6 p7 (rcells na X S) (rcells nb Y S)) (by kernel_rfl) ⟨A6.drew, A7.drew⟩ (fun hHeld => ?_)
        have A6 := A6.drew
        have A7 := A7.drew
        have TK := TK.drew
        refine wpAnyH_take (i := 0) (v := Value.pointer (some ⟨p6, 0, none⟩)) rfl (by kernel_rfl) (by kernel_rfl) (by kernel_rfl) (fun _ _ _ h => h) (Or.inl ⟨by rfl, fun W T => ?_⟩) (by assumption) ?_
        · go_simp
        try simp only [Act.put, List.setIfInBounds_toArray, List.set_cons_zero, List.set_cons_succ]
        refine wpAnyH_take (i := 1) (v := .bool na) rfl (by kernel_rfl) (by kernel_rfl) (by kernel_rfl) (fun _ _ _ h => h) (Or.inl ⟨by rfl, fun W T => ?_⟩) (by assumption) ?_
        · have c60 := At.c0 T.a; have c61 := At.c1 T.a; have c70 := At.c0 T.b; have c71 := At.c1 T.b; go_simp
        try simp only [Act.put, List.setIfInBounds_toArray, List.set_cons_zero, List.set_cons_succ]
        refine wpAnyH_take (i := 2) (v := Value.pointer (some ⟨p6, 1, none⟩)) rfl (by kernel_rfl) (by kernel_rfl) (by kernel_rfl) (fun _ _ _ h => h) (Or.inl ⟨by rfl, fun W T => ?_⟩) (by assumption) ?_
        · go_simp
        try simp only [Act.put, List.setIfInBounds_toArray, List.set_cons_zero, List.set_cons_succ]
        refine wpAnyH_take (i := 3) (v := .string ⟨(ds X).toArray⟩) rfl (by kernel_rfl) (by kernel_rfl) (by kernel_rfl) (fun _ _ _ h => h) (Or.inl ⟨by rfl, fun W T => ?_⟩) (by assumption) ?_
        · have c60 := At.c0 T.a; have c61 := At.c1 T.a; have c70 := At.c0 T.b; have c71 := At.c1 T.b; go_simp
        try simp only [Act.put, List.setIfInBounds_toArray, List.set_cons_zero, List.set_cons_succ]
        refine wpAnyH_take (i := 4) (v := Value.pointer (some ⟨p7, 1, none⟩)) rfl (by kernel_rfl) (by kernel_rfl) (by kernel_rfl) (fun _ _ _ h => h) (Or.inl ⟨by rfl, fun W T => ?_⟩) (by assumption) ?_
        · go_simp
        try simp only [Act.put, List.setIfInBounds_toArray, List.set_cons_zero, List.set_cons_succ]
        refine wpAnyH_take (i := 5) (v := .string ⟨(ds Y).toArray⟩) rfl (by kernel_rfl) (by kernel_rfl) (by kernel_rfl) (fun _ _ _ h => h) (Or.inl ⟨by rfl, fun W T => ?_⟩) (by assumption) ?_
        · have c60 := At.c0 T.a; have c61 := At.c1 T.a; have c70 := At.c0 T.b; have c71 := At.c1 T.b; go_simp
        try simp only [Act.put, List.setIfInBounds_toArray, List.set_cons_zero, List.set_cons_succ]
        refine wpAnyH_take (i := 7) (v := .int .i64 S) rfl (by kernel_rfl) (by kernel_rfl) (by kernel_rfl) (fun _ _ _ h => h) (Or.inl ⟨by rfl, fun W T => ?_⟩) (by assumption) ?_
        · go_simp
        try simp only [Act.put, List.setIfInBounds_toArray, List.set_cons_zero, List.set_cons_succ]
        refine wpAnyH_ready (rs := [6]) (by kernel_rfl) (by simp) ?_
        refine AllReadyH.cons rfl (fun K hK => ?_) AllReadyH.nil
        go_simp
        go_at_call 87
        refine (DI.out _).mono ?_
        rintro e wc ⟨rfl, hb⟩
        have A6 := A6.kept hb
        have A7 := A7.kept hb
        have TK := TK.kept hb
        clear hb
        go_wp2_with fail
        refine hK.out _ _ ⟨A6, A7⟩ (fun _ => ?_)
        clear hK K
        try simp only [Act.put, List.setIfInBounds_toArray, List.set_cons_zero, List.set_cons_succ]
        refine wpAnyH_ready (rs := [8]) (by kernel_rfl) (by simp) ?_
        refine AllReadyH.cons rfl (fun K hK => ?_) AllReadyH.nil
        go_simp
        go_at_call 47
        refine (MA.out _).mono ?_
        rintro e wc ⟨rfl, hb⟩
        have A6 := A6.kept hb
        have A7 := A7.kept hb
        have TK := TK.kept hb
        clear hb
        go_wp2_with fail
        refine hK.out _ _ ⟨A6, A7⟩ (fun _ => ?_)
        clear hK K
        try simp only [Act.put, List.setIfInBounds_toArray, List.set_cons_zero, List.set_cons_succ]
        have r4 : rowOf _ (w.heap.size + 1 + 1) = _ := TK.row 2 _ rfl
        have f4 : freeOf _ (w.heap.size + 1 + 1) = _ := TK.fr 2 rfl
        have o6 := A6.lo
        have o7 := A7.lo
        refine wpAnyH_ready (rs := [9]) (by kernel_rfl) (by simp) ?_
        refine AllReadyH.cons rfl (fun K hK => ?_) AllReadyH.nil
        go_simp
        refine hK.out _ _ ⟨A6.other _ _ (by omega), A7.other _ _ (by omega)⟩ (fun _ => ?_)
        refine wpAnyH_done (by kernel_rfl) ?_ _
        go_wp2
        refine ret_row (b := w.heap.size + 1 + 1) (C := rcells (sgn na (X - Y)) (X - Y) S) rfl rtRef rfl ?_ rfl ⟨by first | rfl | rw [HR.out], TK.below.putRow (by omega) _ _⟩
        go_simp

end Go.Proofs.Ytkcogoibaodbeaa
