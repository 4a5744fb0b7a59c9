/- Package fixed's Unpack for all bytes and numbers. FixedPacks: its walk and what is plain about it, joined. -/
import Derived.Test.YtkcogoibaodbeaaRefO
set_option linter.unusedVariables false
set_option linter.unusedSimpArgs false
namespace Go.Proofs.Ytkcogoibaodbeaa
open Go.RowKit
@[go_sem] theorem run_bdN1 (n : Int) (w : World) : (bdN #[(2, .int .i64 n)]).run Try.prog w = .ok (.agg (ncells false 0 n)) w := by
  refine run_build (P := Try.prog) w _ _ _ ?_
  rw [built_num]
  have h2 : (ncells false 0 0).setIfInBounds 129 (.int .i64 n) = ncells false 0 n := ncells_set_scale _ _ _ _
  simp [Instr.fill, Value.cells, h2]
theorem ncells_put (b : Bool) (V : Nat) (s : Int) (P r : Nat) (hP : P < 128) (hr : r < 10) (h0 : dg V P = 0) : (ncells b V s).setIfInBounds (1 + P) (.int .u8 (r : Int)) = ncells b (V + r * 10 ^ P) s := by
  have h := set_dg V P r hr hP
  rw [h0, Nat.zero_mul, Nat.sub_zero] at h
  have hq : ∀ q, q < 128 → dg (V + r * 10 ^ P) q = if P = q then r else dg V q := fun q hq => by
    have e := congrArg (fun (x : Array Value) => x[q]?) h
    simp only [wcells_get _ _ hq, Array.getElem?_setIfInBounds, wcells_size] at e
    split at e
    · rename_i e1
      injection e with e
      injection e with _ e
      rw [if_pos e1]; omega
    · rename_i e1
      injection e with e
      injection e with _ e
      rw [if_neg e1]; omega
  apply Array.ext_getElem?
  intro j
  by_cases hj : j < 130
  · rw [Array.getElem?_setIfInBounds, ncells_get _ _ _ _ hj, ncells_get _ _ _ _ hj]
    by_cases e : 1 + P = j
    · subst e
      rw [if_pos rfl, if_pos (by rw [ncells_size]; omega), if_neg (by omega), if_neg (by omega), show 1 + P - 1 = P by omega, hq P hP, if_pos rfl]
    · rw [if_neg e]
      congr 1
      by_cases j0 : j = 0
      · rw [if_pos j0, if_pos j0]
      · rw [if_neg j0, if_neg j0]
        by_cases j9 : j = 129
        · rw [if_pos j9, if_pos j9]
        · rw [if_neg j9, if_neg j9, hq (j - 1) (by omega), if_neg (by omega)]
  · rw [Array.getElem?_eq_none (by rw [Array.size_setIfInBounds, ncells_size]; omega), Array.getElem?_eq_none (by rw [ncells_size]; omega)]
theorem dg_mul_low (u : Nat) {i j : Nat} (h : i < j) : dg (u * 10 ^ j) i = 0 := by
  have := dg_low u 0 h
  rw [Nat.add_zero, dg_zero_l] at this
  exact this
attribute [local irreducible] ncells wcells txt
set_option maxRecDepth 100000 in
set_option maxHeartbeats 4000000 in
theorem unpack_form (l : List UInt8) (d s : Int) (w : World) (h : fmB d s = false) :
    Calls Try.prog 22 #[.string ⟨l.toArray⟩, .int .i64 d, .int .i64 s] w fun e w' => e = .returned (.tuple #[.string ⟨#[]⟩, .int .i64 0, .int .i64 7]) ∧ Below w.heap.size w w' := by
  have FM := fun w => formed_any d s w
  rw [h] at FM
  have FM' := Lib.hid FM
  clear FM
  go_enter Try.func22, Try.ntmps22
  go_wp2_with (go_at_call 51; refine (FM'.out _).mono ?_; rintro e w1 ⟨rfl, hb⟩; have K1 := (Blk.nil w).kept hb; clear hb)
  go_ret3
  exact ⟨rfl, K1.below⟩
set_option maxRecDepth 100000 in
set_option maxHeartbeats 4000000 in
theorem unpack_size (l : List UInt8) (d s : Int) (w : World) (h : fmB d s = true) (hl : ¬ (l.length : Int) = d / 2 + 1) :
    Calls Try.prog 22 #[.string ⟨l.toArray⟩, .int .i64 d, .int .i64 s] w fun e w' => e = .returned (.tuple #[.string ⟨#[]⟩, .int .i64 0, .int .i64 11]) ∧ Below w.heap.size w w' := by
  have FM := fun w => formed_any d s w
  obtain ⟨d1, d2, d3, d4⟩ := fmB_of h
  rw [h] at FM
  have FM' := Lib.hid FM
  have hl' : ((l.length : Int) == d / 2 + 1) = false := by simpa using hl
  have w1 : IntKind.i64.wrap (d / 2) = d / 2 := IntWalk.i64_in _ (by omega)
  have w2 : IntKind.i64.wrap (d / 2 + 1) = d / 2 + 1 := IntWalk.i64_in _ (by omega)
  have e1 : d.tdiv 2 = d / 2 := Int.tdiv_eq_ediv_of_nonneg (by omega)
  clear FM
  go_enter Try.func22, Try.ntmps22
  go_wp2_with (go_at_call 51; refine (FM'.out _).mono ?_; rintro e w1 ⟨rfl, hb⟩; have K1 := (Blk.nil w).kept hb; clear hb)
  go_ret3
  exact ⟨rfl, K1.below⟩
set_option maxRecDepth 100000 in
set_option maxHeartbeats 8000000 in
theorem unpack_walk (l : List UInt8) (D n : Nat) (w : World) (h : fmB D n = true) (hl : l.length = D / 2 + 1) :
    Calls Try.prog 22 #[.string ⟨l.toArray⟩, .int .i64 D, .int .i64 n] w fun e w' => e = .returned (.tuple #[.string ⟨(unpT n (unpk l.length (decide ((D : Int) % 2 = 0)) l 0 0)).1.toArray⟩, .int .i64 (unpT n (unpk l.length (decide ((D : Int) % 2 = 0)) l 0 0)).2.1, .int .i64 (unpT n (unpk l.length (decide ((D : Int) % 2 = 0)) l 0 0)).2.2]) ∧ Below w.heap.size w w' := by
  have FM := fun w => formed_any D n w
  obtain ⟨d1, d2, d3, d4⟩ := fmB_of h
  rw [h] at FM
  have FM' := Lib.hid FM
  obtain ⟨L, hL⟩ : ∃ L, l.length = L := ⟨_, rfl⟩
  have hL1 : (l.length : Int) = (L : Int) := by omega
  have hdL : (D : Int) / 2 + 1 = (L : Int) := by omega
  have hL16 : L ≤ 16 := by omega
  have hL0 : 1 ≤ L := by omega
  have wa : IntKind.i64.wrap ((D : Int) / 2) = (D : Int) / 2 := IntWalk.i64_in _ (by omega)
  have wb : IntKind.i64.wrap (L : Int) = (L : Int) := IntWalk.i64_in _ (by omega)
  have wc : IntKind.i64.wrap ((L : Int) - 1) = (L : Int) - 1 := IntWalk.i64_in _ (by omega)
  obtain ⟨ev, hev⟩ : ∃ ev, decide ((D : Int) % 2 = 0) = ev := ⟨_, rfl⟩
  have evT : ev = true → (D : Int) % 2 = 0 := fun e => by rw [← hev] at e; simpa using e
  have evF : ev = false → ¬ (D : Int) % 2 = 0 := fun e => by rw [← hev] at e; simpa using e
  rw [hL, hev]
  obtain ⟨R, hR⟩ : ∃ R, unpk L ev l 0 0 = R := ⟨_, rfl⟩
  rw [hR]
  clear FM h
  go_enter Try.func22, Try.ntmps22
  go_wp2_with (go_at_call 51; refine (FM'.out _).mono ?_; rintro e w1 ⟨rfl, hb⟩; have K1 := (Blk.nil w).kept hb; clear hb)
  have X1 := (Blk.nil w1).lay rfl (ncells false 0 n) 46
  have K2 := K1.more (.cells (ncells false 0 n) 46)
  go_loopw [33] (fun s33 W => ∃ (i u V : Nat) (b : Bool), i ≤ L ∧ s33 = .int .i64 (i : Int) ∧ Blk w1 W [ncells b V n] ∧ Blk w W [] ∧ V < 10 ^ 33 ∧
    ((i < L ∧ b = false ∧ V = u * 10 ^ (2 * (L - 1 - i) + 1) ∧ u < 10 ^ (2 * i) ∧ unpk L ev (l.drop i) i u = R) ∨ (i = L ∧ R = .inr (b, V)))) (fun s33 _ => L - (intOf s33).toNat)
  case atStart => exact ⟨0, 0, 0, false, by omega, rfl, X1, K2, by decide, Or.inl ⟨by omega, rfl, by rw [Nat.zero_mul], by decide, by rw [List.drop_zero]; exact hR⟩⟩
  case round =>
    obtain ⟨i, u, V, b, hi, rfl, T1, K3, hVB, hc⟩ := hrel
    clear X1 K2
    rcases hc with ⟨hlt, rfl, hV, hu, hs⟩ | ⟨rfl, hs⟩
    · have ht : (i : Int) < (L : Int) := by omega
      have hlt' : i < l.length := by omega
      rw [List.drop_eq_getElem_cons hlt', unpk] at hs
      obtain ⟨c, hc⟩ : ∃ c, l[i] = c := ⟨_, rfl⟩
      have hg : ((ByteArray.mk l.toArray)[i]'(by simpa [ByteArray.size] using hlt')).toNat = c.toNat := by rw [← hc]; rfl
      have ha := and15' c
      have hsz : (ByteArray.mk l.toArray).size = L := by rw [← hL]; rfl
      obtain ⟨C, hC⟩ : ∃ C, c.toNat = C := ⟨_, rfl⟩
      have hC256 : C < 256 := by rw [← hC]; exact c.toNat_lt
      rw [hC] at hg ha
      simp only [hc, hC] at hs
      obtain ⟨hh, ehh⟩ : ∃ hh, C / 16 = hh := ⟨_, rfl⟩
      obtain ⟨ll, ell⟩ : ∃ ll, C % 16 = ll := ⟨_, rfl⟩
      rw [ell] at ha
      rw [ehh, ell] at hs
      have wi : IntKind.i64.wrap ((i : Int) + 1) = (i : Int) + 1 := IntWalk.i64_in _ (by omega)
      have ehh' : (C : Int) / 16 = (hh : Int) := by omega
      have hll : ll < 16 := by omega
      have K3d := K3.drew
      by_cases h1 : 9 < hh ∨ (i = 0 ∧ ev = true ∧ hh ≠ 0)
      · rw [if_pos h1] at hs
        have hbad : unpT n R = ([], (i : Int), 12) := by rw [← hs]; rfl
        have h2 : (9 : Int) < (hh : Int) ∨ (¬ (9 : Int) < (hh : Int) ∧ ((i : Int) == 0) = true ∧ (D : Int) % 2 = 0 ∧ ((hh : Int) != 0) = true) := by
          by_cases h9 : 9 < hh
          · exact Or.inl (by omega)
          · rcases h1 with h1 | ⟨h1, h2, h3⟩
            · exact absurd h1 h9
            · exact Or.inr ⟨by omega, by simpa using h1, evT h2, by simpa using h3⟩
        clear hs h1 hV T1
        rcases h2 with h2 | ⟨h2, h3, h4, h5⟩
        all_goals
          go_wp2
          go_region
          go_wp2
          go_ret3
          all_goals exact ⟨by first | rfl | (rw [hbad]; rfl), K3d.below⟩
      · rw [if_neg h1] at hs
        have hh9 : hh < 10 := by omega
        have h9 : ¬ (9 : Int) < (hh : Int) := by omega
        have hG : ((i : Int) == 0) = false ∨ (((i : Int) == 0) = true ∧ ¬ (D : Int) % 2 = 0) ∨ (((i : Int) == 0) = true ∧ (D : Int) % 2 = 0 ∧ ((hh : Int) != 0) = false) := by
          by_cases hi0 : i = 0
          · cases he : ev with
            | false => exact Or.inr (Or.inl ⟨by simpa using hi0, evF he⟩)
            | true => exact Or.inr (Or.inr ⟨by simpa using hi0, evT he, by
                have : hh = 0 := by
                  rcases Nat.eq_zero_or_pos hh with h | h
                  · exact h
                  · exact absurd (Or.inr ⟨hi0, he, by omega⟩) h1
                simpa using this⟩)
          · exact Or.inl (by simpa using hi0)
        clear h1
        by_cases h2 : i + 1 < L
        · rw [if_pos h2] at hs
          have t2 : (i : Int) < (L : Int) - 1 := by omega
          by_cases h3 : 9 < ll
          · rw [if_pos h3] at hs
            have hbad : unpT n R = ([], (i : Int), 12) := by rw [← hs]; rfl
            have t3 : (9 : Int) < (ll : Int) := by omega
            clear hs hV T1
            rcases hG with h4 | ⟨h4, h5⟩ | ⟨h4, h5, h6⟩
            all_goals
              go_wp2
              go_region
              go_wp2
              go_ret3
              all_goals exact ⟨by first | rfl | (rw [hbad]; rfl), K3d.below⟩
          · rw [if_neg h3] at hs
            have t3 : ¬ (9 : Int) < (ll : Int) := by omega
            have hl9 : ll < 10 := by omega
            obtain ⟨Q, hQ⟩ : ∃ Q, 2 * (L - 1 - i) - 1 = Q := ⟨_, rfl⟩
            have hP : 2 * (L - 1 - i) = Q + 1 := by omega
            have m1 : (L : Int) - 1 - (i : Int) = (((L - 1 - i : Nat)) : Int) := by omega
            obtain ⟨m, hm⟩ : ∃ m, L - 1 - i = m := ⟨_, rfl⟩
            rw [hm] at m1 hP hV
            have m2 : 2 * (m : Int) = (Q : Int) + 1 := by omega
            have wm : IntKind.i64.wrap (m : Int) = (m : Int) := IntWalk.i64_in _ (by omega)
            have wP : IntKind.i64.wrap ((Q : Int) + 1) = (Q : Int) + 1 := IntWalk.i64_in _ (by omega)
            have wQ : IntKind.i64.wrap (Q : Int) = (Q : Int) := IntWalk.i64_in _ (by omega)
            have iP : (Q : Int) + 1 < 128 := by omega
            have iP' : Q + 1 < 128 := by omega
            have iQ : (Q : Int) < 128 := by omega
            have iQ' : Q < 128 := by omega
            have V1 : V + hh * 10 ^ (Q + 1) = (u * 10 + hh) * 10 ^ (Q + 1) := by
              rw [hV, hP, Nat.pow_succ 10 (Q + 1), Nat.add_mul, Nat.mul_comm (10 ^ (Q + 1)) 10, ← Nat.mul_assoc]
            have V2 : (u * 10 + hh) * 10 ^ (Q + 1) + ll * 10 ^ Q = ((u * 10 + hh) * 10 + ll) * 10 ^ Q := by
              rw [Nat.pow_succ, Nat.add_mul ((u * 10 + hh) * 10), Nat.mul_comm (10 ^ Q) 10, ← Nat.mul_assoc]
            have z1 : dg V (Q + 1) = 0 := by rw [hV, hP]; exact dg_mul_low u (by omega)
            have z2 : dg ((u * 10 + hh) * 10 ^ (Q + 1)) Q = 0 := dg_mul_low _ (by omega)
            have s1 := ncells_put false V n (Q + 1) hh iP' hh9 z1
            have s2 := ncells_put false ((u * 10 + hh) * 10 ^ (Q + 1)) n Q ll iQ' hl9 z2
            rw [V1] at s1
            rw [V2] at s2
            have T1d := T1.drew
            have T2 := T1d.set 0 rfl (1 + (Q + 1)) (.int .u8 (hh : Int))
            rw [List.set_cons_zero, s1] at T2
            have T3 := T2.set 0 rfl (1 + Q) (.int .u8 (ll : Int))
            rw [List.set_cons_zero, s2] at T3
            have c1 : wr.drew.cell? ⟨w1.heap.size, 1 + (Q + 1), none⟩ = some (.int .u8 (dg V (Q + 1))) := (T1d.cell 0 rfl (1 + (Q + 1))).trans (by rw [ncells_get _ _ _ _ (by omega), if_neg (by omega), if_neg (by omega), show 1 + (Q + 1) - 1 = Q + 1 by omega])
            have f1 : wr.drew.frozen? ⟨w1.heap.size, 1 + (Q + 1), none⟩ = false := T1d.frozen 0 rfl (1 + (Q + 1))
            have c2 : (wr.drew.setCell ⟨w1.heap.size, 1 + (Q + 1), none⟩ (.int .u8 (hh : Int))).cell? ⟨w1.heap.size, 1 + Q, none⟩ = some (.int .u8 (dg ((u * 10 + hh) * 10 ^ (Q + 1)) Q)) := (T2.cell 0 rfl (1 + Q)).trans (by rw [ncells_get _ _ _ _ (by omega), if_neg (by omega), if_neg (by omega), show 1 + Q - 1 = Q by omega])
            have f2 : (wr.drew.setCell ⟨w1.heap.size, 1 + (Q + 1), none⟩ (.int .u8 (hh : Int))).frozen? ⟨w1.heap.size, 1 + Q, none⟩ = false := T2.frozen 0 rfl (1 + Q)
            have hu2 : (u * 10 + hh) * 10 + ll < 10 ^ (2 * (i + 1)) := by
              rw [show 2 * (i + 1) = 2 * i + 1 + 1 by omega, Nat.pow_succ, Nat.pow_succ]; omega
            have hs' : unpk L ev (l.drop (i + 1)) (i + 1) ((u * 10 + hh) * 10 + ll) = R := by
              rw [← hs]; congr 1; omega
            have hV3 : ((u * 10 + hh) * 10 + ll) * 10 ^ Q = ((u * 10 + hh) * 10 + ll) * 10 ^ (2 * (L - 1 - (i + 1)) + 1) := by
              congr 2; omega
            have hVB3 : ((u * 10 + hh) * 10 + ll) * 10 ^ Q < 10 ^ 33 := by
              have : ((u * 10 + hh) * 10 + ll) * 10 ^ Q < 10 ^ (2 * (i + 1)) * 10 ^ Q := Nat.mul_lt_mul_of_pos_right hu2 (Nat.pow_pos (by decide))
              rw [← Nat.pow_add] at this
              exact Nat.lt_of_lt_of_le this (Nat.pow_le_pow_right (by decide) (by omega))
            have K4 : Blk w ((wr.drew.setCell ⟨w1.heap.size, 1 + (Q + 1), none⟩ (.int .u8 (hh : Int))).setCell ⟨w1.heap.size, 1 + Q, none⟩ (.int .u8 (ll : Int))) [] := by
              have hk := K1.le
              exact ⟨fun _ _ h => by simp at h, fun _ h => by simp at h, (K3d.below.setCell (by simpa using hk) _).setCell (by simpa using hk) _, by simpa using K3d.le⟩
            have c2a : (wr.setCell ⟨w1.heap.size, 1 + (Q + 1), none⟩ (.int .u8 (hh : Int))).cell? ⟨w1.heap.size, 1 + Q, none⟩ = _ := c2
            have f2a : (wr.setCell ⟨w1.heap.size, 1 + (Q + 1), none⟩ (.int .u8 (hh : Int))).frozen? ⟨w1.heap.size, 1 + Q, none⟩ = _ := f2
            have c2b : (wr.setCell ⟨w1.heap.size, 1 + (Q + 1), none⟩ (.int .u8 (hh : Int))).drew.cell? ⟨w1.heap.size, 1 + Q, none⟩ = _ := c2
            have f2b : (wr.setCell ⟨w1.heap.size, 1 + (Q + 1), none⟩ (.int .u8 (hh : Int))).drew.frozen? ⟨w1.heap.size, 1 + Q, none⟩ = _ := f2
            clear hs V1 V2 z1 z2 s1 s2 hV T2 T1 c2 f2
            rcases hG with h4 | ⟨h4, h5⟩ | ⟨h4, h5, h6⟩
            all_goals
              go_wp2
              go_region
              go_wp2
              exact ⟨⟨i + 1, (u * 10 + hh) * 10 + ll, _, false, by omega, rfl, T3, K4, hVB3, Or.inl ⟨h2, rfl, hV3, hu2, hs'⟩⟩, by simp [intOf]; omega⟩
        · rw [if_neg h2] at hs
          have m0 : (L : Int) - 1 - (i : Int) = 0 := by omega
          have t2 : ¬ (i : Int) < (L : Int) - 1 := by omega
          have w0 : IntKind.i64.wrap (0 : Int) = 0 := IntWalk.i64_in _ (by omega)
          have hiL : i + 1 = L := by omega
          have hV' : V = u * 10 := by rw [hV, show L - 1 - i = 0 by omega]
          have z1 : dg V 0 = 0 := by rw [hV']; show u * 10 / 10 ^ 0 % 10 = 0; rw [Nat.pow_zero, Nat.div_one]; omega
          have s1 : (ncells false V n).setIfInBounds 1 (.int .u8 (hh : Int)) = ncells false (u * 10 + hh) n := by
            have := ncells_put false V n 0 hh (by decide) hh9 z1
            rw [Nat.pow_zero, Nat.mul_one, hV'] at this
            rw [hV']; exact this
          have hU : u * 10 + hh < 10 ^ 33 := by
            have h1 : u < 10 ^ 32 := Nat.lt_of_lt_of_le hu (Nat.pow_le_pow_right (by decide) (by omega))
            have e : (10 : Nat) ^ 33 = 10 ^ 32 * 10 := by rw [← Nat.pow_succ]
            omega
          have hUB : u * 10 + hh < Big := Nat.lt_of_lt_of_le hU (ten_big (by decide))
          have T1d := T1.drew
          have T2 := T1d.set 0 rfl 1 (.int .u8 (hh : Int))
          rw [List.set_cons_zero, s1] at T2
          have T2' : Blk w1 (wr.setCell ⟨w1.heap.size, 1, none⟩ (.int .u8 (hh : Int))).drew [ncells false (u * 10 + hh) n] := T2
          have r00 : rowOf wr w1.heap.size = ncells false V n := T1.row 0 _ rfl
          have c1 : wr.drew.cell? ⟨w1.heap.size, 1, none⟩ = some (.int .u8 (dg V 0)) := (T1d.cell 0 rfl 1).trans (by rw [ncells_get _ _ _ _ (by omega), if_neg (by omega), if_neg (by omega)])
          have f1 : wr.drew.frozen? ⟨w1.heap.size, 1, none⟩ = false := T1d.frozen 0 rfl 1
          have cz : (wr.setCell ⟨w1.heap.size, 1, none⟩ (.int .u8 (hh : Int))).drew.cell? ⟨w1.heap.size, 0, none⟩ = some (.bool false) := (T2'.cell 0 rfl 0).trans (ncells_neg _ _ _)
          have fz : (wr.setCell ⟨w1.heap.size, 1, none⟩ (.int .u8 (hh : Int))).drew.frozen? ⟨w1.heap.size, 0, none⟩ = false := T2'.frozen 0 rfl 0
          have cza : (wr.setCell ⟨w1.heap.size, 1, none⟩ (.int .u8 (hh : Int))).cell? ⟨w1.heap.size, 0, none⟩ = some (.bool false) := cz
          have fza : (wr.setCell ⟨w1.heap.size, 1, none⟩ (.int .u8 (hh : Int))).frozen? ⟨w1.heap.size, 0, none⟩ = false := fz
          have hk := K1.le
          have K4 : Blk w (wr.setCell ⟨w1.heap.size, 1, none⟩ (.int .u8 (hh : Int))).drew [] :=
            ⟨fun _ _ h => by simp at h, fun _ h => by simp at h, (K3d.below.setCell (by simpa using hk) _), by simpa using K3d.le⟩
          have K5 : Blk w ((wr.setCell ⟨w1.heap.size, 1, none⟩ (.int .u8 (hh : Int))).drew.setCell ⟨w1.heap.size, 0, none⟩ (.bool false)) [] :=
            ⟨fun _ _ h => by simp at h, fun _ h => by simp at h, (K4.below.setCell (by simpa using hk) _), by simpa using K4.le⟩
          have T5 := T2'.set 0 rfl 0 (.bool false)
          rw [List.set_cons_zero, ncells_set_neg] at T5
          have ZE := Lib.hid (fun w => zero_any (u * 10 + hh) w hUB)
          clear hV hV' z1 T1 T2 c1 hU hUB
          have c1 : wr.drew.cell? ⟨w1.heap.size, 1, none⟩ = some (.int .u8 (dg V 0)) := (T1d.cell 0 rfl 1).trans (by rw [ncells_get _ _ _ _ (by omega), if_neg (by omega), if_neg (by omega)])
          clear T1d
          have hUV : u * 10 + hh < 10 ^ 33 := by
            have h1 : u < 10 ^ 32 := Nat.lt_of_lt_of_le hu (Nat.pow_le_pow_right (by decide) (by omega))
            have e : (10 : Nat) ^ 33 = 10 ^ 32 * 10 := by rw [← Nat.pow_succ]
            omega
          by_cases h3 : (ll ≠ 12 ∧ ll ≠ 13) ∨ (ll = 13 ∧ u * 10 + hh = 0)
          · rw [if_pos h3] at hs
            have hbad : unpT n R = ([], (i : Int), 12) := by rw [← hs]; rfl
            have hL3 : (((ll : Int) != 12) = true ∧ ((ll : Int) != 13) = true) ∨ (((ll : Int) != 12) = true ∧ ((ll : Int) != 13) = false ∧ ((ll : Int) == 13) = true ∧ (u * 10 + hh == 0) = true) := by
              rcases h3 with ⟨a1, a2⟩ | ⟨a1, a2⟩
              · exact Or.inl ⟨by simp; omega, by simp; omega⟩
              · exact Or.inr ⟨by simp; omega, by simp; omega, by simp; omega, by rw [a2]; rfl⟩
            clear hs h3 T5 K5
            rcases hL3 with ⟨a1, a2⟩ | ⟨a1, a2, a3, a4⟩
            · clear T2'
              rcases hG with h4 | ⟨h4, h5⟩ | ⟨h4, h5, h6⟩
              all_goals
                go_wp2
                go_region
                go_wp2
                all_goals go_ret3
                all_goals exact ⟨by first | rfl | (rw [hbad]; rfl), K4.below⟩
            · rw [a4] at ZE
              rcases hG with h4 | ⟨h4, h5⟩ | ⟨h4, h5, h6⟩
              all_goals
                go_wp2
                go_region
                go_wp2_with (go_at_call 53; refine (ZE.out _).mono ?_; rintro e w4 ⟨rfl, hb⟩; have K6 := K4.kept hb; clear hb)
                all_goals go_ret3
                all_goals exact ⟨by first | rfl | (rw [hbad]; rfl), K6.below⟩
          · rw [if_neg h3] at hs
            by_cases h13 : ll = 13
            · have a1 : ((ll : Int) != 12) = true := by simp; omega
              have a2 : ((ll : Int) != 13) = false := by simp; omega
              have a3 : ((ll : Int) == 13) = true := by simp; omega
              have a5 : (ll == 13) = true := by simp; omega
              have a4 : (u * 10 + hh == 0) = false := by rw [beq_eq_false_iff_ne]; intro e; exact h3 (Or.inr ⟨h13, e⟩)
              rw [a5] at hs
              rw [a4] at ZE
              clear h3 h13 T5 K5 cz fz cza fza
              rcases hG with h4 | ⟨h4, h5⟩ | ⟨h4, h5, h6⟩
              all_goals
                go_wp2
                go_region
                go_wp2_with (go_at_call 53; refine (ZE.out _).mono ?_; rintro e w4 ⟨rfl, hb⟩; have K6 := K4.kept hb; have T6 := T2'.kept hb; clear hb; have c6 : World.cell? _ ⟨w1.heap.size, 0, none⟩ = some (.bool false) := (T6.cell 0 rfl 0).trans (ncells_neg _ _ _); have z6 : World.frozen? _ ⟨w1.heap.size, 0, none⟩ = _ := T6.frozen 0 rfl 0; have T7 := T6.set 0 rfl 0 (.bool true))
                rw [List.set_cons_zero, ncells_set_neg] at T7
                exact ⟨⟨i + 1, 0, u * 10 + hh, true, by omega, rfl, T7, ⟨fun _ _ h => by simp at h, fun _ h => by simp at h, (K6.below.setCell (by simpa using hk) _), by simpa using K6.le⟩, hUV, Or.inr ⟨hiL, hs.symm⟩⟩, by simp [intOf]; omega⟩
            · have h12 : ll = 12 := by
                by_cases h12 : ll = 12
                · exact h12
                · exact absurd (Or.inl ⟨h12, h13⟩) h3
              have a1 : ((ll : Int) != 12) = false := by simp; omega
              have a3 : ((ll : Int) == 13) = false := by simp; omega
              have a5 : (ll == 13) = false := by simp; omega
              rw [a5] at hs
              clear h3 h13 h12 T2'
              rcases hG with h4 | ⟨h4, h5⟩ | ⟨h4, h5, h6⟩
              all_goals
                go_wp2
                go_region
                go_wp2
                exact ⟨⟨i + 1, 0, u * 10 + hh, false, by omega, rfl, T5, K5, hUV, Or.inr ⟨hiL, hs.symm⟩⟩, by simp [intOf]; omega⟩
    · have ht : ¬ (i : Int) < (i : Int) := by omega
      have r0 : rowOf _ (w1.heap.size) = _ := T1.row 0 _ rfl
      have hVB' : V < Big := Nat.lt_of_lt_of_le hVB (ten_big (by decide))
      have TX := Lib.hid (fun w => text_any b V n w hVB' (by omega))
      have hgood : unpT n R = (txt b V n, 0, 0) := by rw [hs]; rfl
      go_wp2_with (go_at_call 58; refine (TX.out _).mono ?_; rintro e w4 ⟨rfl, hb⟩; have K6 := K3.kept hb; clear hb)
      go_ret3
      exact ⟨by first | rfl | (rw [hgood]; rfl), K6.below⟩
theorem unpack_all (l : List UInt8) (d s : Int) (w : World) :
    Calls Try.prog 22 #[.string ⟨l.toArray⟩, .int .i64 d, .int .i64 s] w fun e w' => e = .returned (.tuple #[.string ⟨(unpackR l d s).1.toArray⟩, .int .i64 (unpackR l d s).2.1, .int .i64 (unpackR l d s).2.2]) ∧ Below w.heap.size w w' := by
  unfold unpackR
  cases hf : fmB d s with
  | false => rw [if_neg (by decide)]; exact unpack_form l d s w hf
  | true =>
    rw [if_pos rfl]
    obtain ⟨d1, d2, d3, d4⟩ := fmB_of hf
    obtain ⟨D, rfl⟩ : ∃ D : Nat, d = D := ⟨d.toNat, by omega⟩
    obtain ⟨n, rfl⟩ : ∃ n : Nat, s = n := ⟨s.toNat, by omega⟩
    by_cases hl : (l.length : Int) = (D : Int) / 2 + 1
    · rw [if_pos hl, Int.toNat_natCast]
      exact unpack_walk l D n w hf (by omega)
    · rw [if_neg hl]
      exact unpack_size l D n w hf hl
end Go.Proofs.Ytkcogoibaodbeaa
namespace Go.Proofs.Ytkcogoibaodbeaa
open Go.RowKit
def UnSays (k : Nat) (x : ByteArray) (d t : Int) (r : List UInt8 × Int × Int) : Prop := ∀ w, Calls Try.prog k #[.string x, .int .i64 d, .int .i64 t] w fun e w' => e = .returned (.tuple #[.string ⟨r.1.toArray⟩, .int .i64 r.2.1, .int .i64 r.2.2]) ∧ Below w.heap.size w w'
def LenSays (k : Nat) (d : Int) (n e : Int) : Prop := ∀ w, Calls Try.prog k #[.int .i64 d] w fun e' w' => e' = .returned (.tuple #[.int .i64 n, .int .i64 e]) ∧ Below w.heap.size w w'
set_option maxRecDepth 100000 in
set_option maxHeartbeats 1000000 in
theorem packs_long (x y : ByteArray) (d t : Int) (w : World) (hx : x.size ≤ 1125899906842624) (hy : y.size ≤ 1125899906842624) (h : 500 < x.size + y.size) :
    Calls Try.prog 4 #[.string x, .string y, .int .i64 d, .int .i64 t] w fun e w' => e = .returned (.bool true) ∧ Below w.heap.size w w' := by
  have T0 := (Blk.nil w).lay rfl #[.string x, .string y] 9
  have c0 : World.cell? _ ⟨w.heap.size, 0, none⟩ = some (.string x) := T0.cell 0 rfl 0
  have c1 : World.cell? _ ⟨w.heap.size, 1, none⟩ = some (.string y) := T0.cell 0 rfl 1
  have LO := long_two x y w.heap.size _ hx hy c0 c1
  rw [decide_eq_true h] at LO
  have LO' := Lib.hid LO
  clear LO
  go_enter Try.func4, Try.ntmps4
  go_wp2_with (first
    | (go_at_call 8; refine LO'.out.mono ?_; rintro e w1 ⟨rfl, rfl⟩)
    | (go_at_call 9; refine (awake_any _).mono ?_; rintro e w3 ⟨rfl, hb⟩; have K3 := T0.kept hb; clear hb))
  go_ret
  exact ⟨rfl, K3.below⟩
set_option maxRecDepth 100000 in
set_option maxHeartbeats 4000000 in
theorem packs_walk (x : ByteArray) (m : List UInt8) (d t : Int) (a u c : List UInt8) (ea pu p ec n en : Int) (w : World) (hx : x.size + m.length ≤ 500)
    (h1 : ToSays 18 x d t (a, ea)) (h2 : ToSays 19 x d t (a, ea))
    (h3 : LenSays 20 d n en) (h4 : LenSays 21 d n en)
    (h5 : ea = 0 → UnSays 22 ⟨a.toArray⟩ d t (u, pu, 0)) (h6 : ea = 0 → CutSays 10 x t (u, 0)) (h0 : ea = 0 → (a.length : Int) = n)
    (h7 : UnSays 22 ⟨m.toArray⟩ d t (c, p, ec)) (h8 : UnSays 23 ⟨m.toArray⟩ d t (c, p, ec))
    (h9 : ec = 0 → ToSays 18 ⟨c.toArray⟩ d t (m, 0)) :
    Calls Try.prog 4 #[.string x, .string ⟨m.toArray⟩, .int .i64 d, .int .i64 t] w fun e w' => e = .returned (.bool true) ∧ Below w.heap.size w w' := by
  have T0 := (Blk.nil w).lay rfl #[.string x, .string ⟨m.toArray⟩] 9
  have c0 : World.cell? _ ⟨w.heap.size, 0, none⟩ = some (.string x) := T0.cell 0 rfl 0
  have c1 : World.cell? _ ⟨w.heap.size, 1, none⟩ = some (.string ⟨m.toArray⟩) := T0.cell 0 rfl 1
  have hms : (ByteArray.mk m.toArray).size = m.length := rfl
  have LO := long_two x ⟨m.toArray⟩ w.heap.size _ (by omega) (by rw [hms]; omega) c0 c1
  rw [decide_eq_false (by rw [hms]; omega)] at LO
  have LO' := Lib.hid LO
  have H1 := Lib.hid h1
  have H2 := Lib.hid h2
  have H3 := Lib.hid h3
  have H4 := Lib.hid h4
  have H7 := Lib.hid h7
  have H8 := Lib.hid h8
  clear LO h1 h2 h3 h4 h7 h8
  by_cases za : ea = 0
  all_goals by_cases zc : ec = 0
  all_goals first | (have H5 := Lib.hid (h5 za); have H6 := Lib.hid (h6 za); have hlen := h0 za) | skip
  all_goals first | (have H9 := Lib.hid (h9 zc)) | skip
  all_goals
    clear h5 h6 h0 h9
    first | subst za | skip
    first | subst zc | skip
    go_enter Try.func4, Try.ntmps4
    go_wp2_with (first
      | (go_at_call 8; refine LO'.out.mono ?_; rintro e w1 ⟨rfl, rfl⟩; have KL := T0)
      | (go_at_call 18; have KK := K8; clear KK; refine (H9.out _).mono ?_; rintro e w9 ⟨rfl, hb⟩; have K9 := K8.kept hb; clear hb)
      | (go_at_call 18; refine (H1.out _).mono ?_; rintro e w1 ⟨rfl, hb⟩; have K1 := T0.kept hb; clear hb)
      | (go_at_call 19; refine (H2.out _).mono ?_; rintro e w2 ⟨rfl, hb⟩; have K2 := K1.kept hb; clear hb)
      | (go_at_call 20; refine (H3.out _).mono ?_; rintro e w3 ⟨rfl, hb⟩; have K3 := K2.kept hb; clear hb)
      | (go_at_call 21; refine (H4.out _).mono ?_; rintro e w4 ⟨rfl, hb⟩; have K4 := K3.kept hb; clear hb)
      | (go_at_call 22; have KK := K6; clear KK; refine (H7.out _).mono ?_; rintro e w7 ⟨rfl, hb⟩; have K7 := K6.kept hb; clear hb)
      | (go_at_call 22; refine (H5.out _).mono ?_; rintro e w5 ⟨rfl, hb⟩; have K5 := K4.kept hb; clear hb)
      | (go_at_call 22; refine (H7.out _).mono ?_; rintro e w7 ⟨rfl, hb⟩; have K7 := K4.kept hb; clear hb)
      | (go_at_call 10; refine (H6.out _).mono ?_; rintro e w6 ⟨rfl, hb⟩; have K6 := K5.kept hb; clear hb)
      | (go_at_call 23; refine (H8.out _).mono ?_; rintro e w8 ⟨rfl, hb⟩; have K8 := K7.kept hb; clear hb)
      | (go_at_call 9; have KK := K8; clear KK; refine (awake_any _).mono ?_; rintro e w11 ⟨rfl, hb⟩; have K11 := (by first | exact K9.kept hb | exact K8.kept hb); clear hb))
    go_ret
    exact ⟨rfl, K11.below⟩
theorem packs_any (x y : ByteArray) (d t : Int) (w : World) (hx : x.size ≤ 1125899906842624) (hy : y.size ≤ 1125899906842624) :
    Calls Try.prog 4 #[.string x, .string y, .int .i64 d, .int .i64 t] w fun e w' => e = .returned (.bool true) ∧ Below w.heap.size w w' := by
  by_cases h : 500 < x.size + y.size
  · exact packs_long x y d t w hx hy h
  · obtain ⟨l, rfl⟩ : ∃ l : List UInt8, x = ⟨l.toArray⟩ := ⟨x.data.toList, by cases x; simp⟩
    obtain ⟨m, rfl⟩ : ∃ m : List UInt8, y = ⟨m.toArray⟩ := ⟨y.data.toList, by cases y; simp⟩
    have hls : (ByteArray.mk l.toArray).size = l.length := rfl
    have hms : (ByteArray.mk m.toArray).size = m.length := rfl
    have hl : l.length ≤ 500 := by rw [hls] at h; omega
    refine packs_walk ⟨l.toArray⟩ m d t (packR l d t).1 (cutR l t).1 (unpackR m d t).1 (packR l d t).2 (unpackR (packR l d t).1 d t).2.1 (unpackR m d t).2.1 (unpackR m d t).2.2 (lenR d).1 (lenR d).2 w (by rw [hls] at h ⊢; rw [hms] at h; omega)
      (fun w => pack_all l d t w hl) (fun w => rpack_all l d t w hl) (fun w => length_all d w) (fun w => (rlength_all d w).mono fun _ _ ⟨h1, h2⟩ => ⟨h1, h2 ▸ Below.refl _ _⟩)
      (fun h0 => ?_) (fun h0 => ?_) (fun h0 => (unpack_pack h0).2.2.2) (fun w => unpack_all m d t w) (fun w => runpack_all m d t w) (fun h0 => ?_)
    · obtain ⟨g1, g2, g3, g4⟩ := unpack_pack h0
      intro w
      have := unpack_all (packR l d t).1 d t w
      rw [g1, g2] at this
      exact this
    · obtain ⟨g1, g2, g3, g4⟩ := unpack_pack h0
      intro w
      have := cut_all l t w hl
      rw [g3] at this
      exact this
    · obtain ⟨g1, g2⟩ := pack_unpack h0
      intro w
      have := pack_all (unpackR m d t).1 d t w g1
      rw [g2] at this
      exact this
end Go.Proofs.Ytkcogoibaodbeaa
