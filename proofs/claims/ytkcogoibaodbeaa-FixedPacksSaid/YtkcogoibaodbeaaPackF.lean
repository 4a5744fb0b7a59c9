/- Packed digits: what packing and unpacking answer, and that each undoes the other. No program in sight. Package fixed's Pack and Unpack for all texts and numbers. -/
import Derived.Test.YtkcogoibaodbeaaCuts
import Derived.Deep.OwnRows
import Derived.Laws.IdiomStrings
set_option linter.unusedVariables false
set_option linter.unusedSimpArgs false
namespace Go.Proofs.Ytkcogoibaodbeaa
def sgB (b : Bool) : Nat := if b then 13 else 12
/-- What Pack answers. -/
def packR (l : List UInt8) (d s : Int) : List UInt8 × Int := if (toR l d s).2 = 0 then (packB (scU (uOf l) (sOf l) s.toNat) (sgB (sgn (negOf l) (scU (uOf l) (sOf l) s.toNat))) (d.toNat / 2 + 1), 0) else ([], (toR l d s).2)
/-- Unpacking, byte for byte: the place of the first wrong one, or the sign and the digits. -/
def unpk (L : Nat) (ev : Bool) : List UInt8 → Nat → Nat → Nat ⊕ (Bool × Nat)
  | [], i, _ => .inl i
  | c :: r, i, u =>
    if 9 < c.toNat / 16 ∨ (i = 0 ∧ ev = true ∧ c.toNat / 16 ≠ 0) then .inl i
    else if i + 1 < L then (if 9 < c.toNat % 16 then .inl i else unpk L ev r (i + 1) (u * 100 + c.toNat / 16 * 10 + c.toNat % 16))
    else if (c.toNat % 16 ≠ 12 ∧ c.toNat % 16 ≠ 13) ∨ (c.toNat % 16 = 13 ∧ u * 10 + c.toNat / 16 = 0) then .inl i
    else .inr (c.toNat % 16 == 13, u * 10 + c.toNat / 16)
def unpT (s : Nat) : Nat ⊕ (Bool × Nat) → List UInt8 × Int × Int
  | .inl i => ([], i, 12)
  | .inr (n, u) => (txt n u s, 0, 0)
/-- What Unpack answers. -/
def unpackR (l : List UInt8) (d s : Int) : List UInt8 × Int × Int :=
  if fmB d s = true then (if (l.length : Int) = d / 2 + 1 then unpT s.toNat (unpk l.length (decide (d % 2 = 0)) l 0 0) else ([], 0, 11)) else ([], 0, 7)
theorem packB_get (u sg L k : Nat) (h : k < L) : (packB u sg L)[k]? = some (UInt8.ofNat (pb u sg (L - 1 - k))) := by
  unfold packB
  rw [List.getElem?_ofFn, dif_pos h]
theorem packB_drop (u sg L i : Nat) (h : i < L) : (packB u sg L).drop i = UInt8.ofNat (pb u sg (L - 1 - i)) :: (packB u sg L).drop (i + 1) := by
  have hl : i < (packB u sg L).length := by rw [packB_length]; exact h
  rw [List.drop_eq_getElem_cons hl]
  congr 1
  have := packB_get u sg L i h
  rw [List.getElem?_eq_getElem hl] at this
  exact Option.some.inj this
theorem pb_nat {u sg i : Nat} (h : sg < 16) : (UInt8.ofNat (pb u sg i)).toNat = pb u sg i := by
  rw [UInt8.toNat_ofNat', Nat.mod_eq_of_lt (pb_lt h)]
theorem pb_hi {u sg i : Nat} (h : sg < 16) : pb u sg i / 16 = dg u (2 * i) := by
  have h2 := dg_lt u (2 * i - 1)
  unfold pb
  split <;> omega
theorem pb_lo {u sg i : Nat} (h : sg < 16) : pb u sg i % 16 = if i = 0 then sg else dg u (2 * i - 1) := by
  have h2 := dg_lt u (2 * i - 1)
  unfold pb
  split <;> omega
theorem div_two_digits (u k : Nat) : u / 10 ^ (k + 2) * 100 + dg u (k + 1) * 10 + dg u k = u / 10 ^ k := by
  unfold dg
  rw [show k + 2 = k + 1 + 1 by omega, Nat.pow_succ, Nat.pow_succ, ← Nat.div_div_eq_div_mul, ← Nat.div_div_eq_div_mul, Nat.div_div_eq_div_mul (u / 10 ^ k)]
  have : u / 10 ^ k / 10 % 10 = u / 10 ^ k / 10 - u / 10 ^ k / (10 * 10) * 10 := by rw [← Nat.div_div_eq_div_mul]; omega
  omega
theorem sgB_lt (b : Bool) : sgB b < 16 := by cases b <;> decide
theorem unpk_pack (u L : Nat) (b ev : Bool) (hb : b = true → u ≠ 0) (hu : u < 10 ^ (2 * L - 1)) (hev : ev = true → u < 10 ^ (2 * L - 2)) :
    ∀ (n i : Nat), i + n = L → 0 < n → unpk L ev ((packB u (sgB b) L).drop i) i (u / 10 ^ (2 * n - 1)) = .inr (b, u) := by
  intro n
  induction n with
  | zero => intro i _ h; omega
  | succ n ih =>
    intro i hi _
    have hs := sgB_lt b
    rw [packB_drop _ _ _ _ (by omega), unpk, pb_nat hs, pb_hi hs, pb_lo hs, show L - 1 - i = n by omega]
    have d1 := dg_lt u (2 * n)
    have d2 := dg_lt u (2 * n - 1)
    rw [if_neg (by
      rintro (h | ⟨rfl, h1, h2⟩)
      · omega
      · refine h2 (dg_zero_of_lt (Nat.lt_of_lt_of_le (hev h1) (Nat.pow_le_pow_right (by decide) (by omega)))))]
    by_cases h : i + 1 < L
    · rw [if_pos h, if_neg (show ¬ n = 0 by omega), if_neg (by omega)]
      have e : u / 10 ^ (2 * (n + 1) - 1) * 100 + dg u (2 * n) * 10 + dg u (2 * n - 1) = u / 10 ^ (2 * n - 1) := by
        have := div_two_digits u (2 * n - 1)
        rw [show 2 * n - 1 + 2 = 2 * (n + 1) - 1 by omega, show 2 * n - 1 + 1 = 2 * n by omega] at this
        exact this
      rw [e]
      exact ih (i + 1) (by omega) (by omega)
    · have h0 : n = 0 := by omega
      subst h0
      rw [if_neg h, if_pos rfl]
      have e : u / 10 ^ (2 * (0 + 1) - 1) * 10 + dg u (2 * 0) = u := by
        show u / 10 ^ 1 * 10 + u / 10 ^ 0 % 10 = u
        rw [Nat.pow_one, Nat.pow_zero, Nat.div_one]; omega
      rw [e]
      cases b with
      | false => rfl
      | true =>
        have := hb rfl
        rw [if_neg (by simp [sgB]; omega)]
        rfl
theorem unpk_inv (L : Nat) (ev b : Bool) (u : Nat) : ∀ (r : List UInt8) (i v : Nat), i + r.length = L → unpk L ev r i v = .inr (b, u) →
    (∀ k (h : k < r.length), r[k].toNat = pb u (sgB b) (r.length - 1 - k)) ∧ u / 10 ^ (2 * r.length - 1) = v ∧ (b = true → u ≠ 0) ∧ (i = 0 → ev = true → dg u (2 * r.length - 2) = 0) := by
  intro r
  induction r with
  | nil => intro i v _ h; simp [unpk] at h
  | cons c r ih =>
    intro i v hi h
    rw [List.length_cons] at hi
    rw [unpk] at h
    by_cases h1 : 9 < c.toNat / 16 ∨ (i = 0 ∧ ev = true ∧ c.toNat / 16 ≠ 0)
    · rw [if_pos h1] at h; cases h
    · rw [if_neg h1] at h
      have hc9 : c.toNat / 16 ≤ 9 := by omega
      by_cases h2 : i + 1 < L
      · rw [if_pos h2] at h
        by_cases h3 : 9 < c.toNat % 16
        · rw [if_pos h3] at h; cases h
        · rw [if_neg h3] at h
          obtain ⟨g1, g2, g3, g4⟩ := ih (i + 1) _ (by omega) h
          obtain ⟨m, hm⟩ : ∃ m, r.length = m + 1 := ⟨r.length - 1, by omega⟩
          have e := div_two_digits u (2 * r.length - 1)
          rw [g2] at e
          have d1 := dg_lt u (2 * r.length - 1 + 1)
          have d2 := dg_lt u (2 * r.length - 1)
          have eh : dg u (2 * r.length - 1 + 1) = c.toNat / 16 := by omega
          have el : dg u (2 * r.length - 1) = c.toNat % 16 := by omega
          have ev' : u / 10 ^ (2 * r.length - 1 + 2) = v := by omega
          rw [show 2 * r.length - 1 + 1 = 2 * r.length by omega] at eh
          refine ⟨?_, ?_, g3, ?_⟩
          · intro k hk
            cases k with
            | zero =>
              simp only [List.getElem_cons_zero, List.length_cons]
              rw [show r.length + 1 - 1 - 0 = r.length by omega]
              unfold pb
              rw [if_neg (show ¬ r.length = 0 by omega), eh, el]; omega
            | succ k =>
              simp only [List.getElem_cons_succ, List.length_cons]
              rw [show r.length + 1 - 1 - (k + 1) = r.length - 1 - k by omega]
              exact g1 k (by simpa using hk)
          · rw [List.length_cons, show 2 * (r.length + 1) - 1 = 2 * r.length - 1 + 2 by omega]; exact ev'
          · intro h0 he
            rw [List.length_cons, show 2 * (r.length + 1) - 2 = 2 * r.length by omega, eh]
            rcases Nat.eq_zero_or_pos (c.toNat / 16) with hz | hz
            · exact hz
            · exact absurd (Or.inr ⟨h0, he, by omega⟩) h1
      · rw [if_neg h2] at h
        by_cases h3 : (c.toNat % 16 ≠ 12 ∧ c.toNat % 16 ≠ 13) ∨ (c.toNat % 16 = 13 ∧ v * 10 + c.toNat / 16 = 0)
        · rw [if_pos h3] at h; cases h
        · rw [if_neg h3] at h
          injection h with h
          injection h with hb hu
          have hr : r = [] := List.eq_nil_of_length_eq_zero (by omega)
          subst hr
          have eh : dg u 0 = c.toNat / 16 := by
            unfold dg; rw [Nat.pow_zero, Nat.div_one, ← hu]; omega
          refine ⟨?_, ?_, ?_, ?_⟩
          · intro k hk
            obtain rfl : k = 0 := by simpa using hk
            simp only [List.getElem_cons_zero, List.length_cons, List.length_nil]
            show c.toNat = pb u (sgB b) 0
            unfold pb
            rw [if_pos rfl, Nat.mul_zero, eh, ← hb]
            by_cases h13 : c.toNat % 16 = 13
            · rw [h13]; simp [sgB]; omega
            · have : c.toNat % 16 = 12 := by omega
              rw [this]; simp [sgB]; omega
          · show u / 10 ^ 1 = v
            rw [Nat.pow_one, ← hu]; omega
          · intro hbt h0
            rw [← hb] at hbt
            have : c.toNat % 16 = 13 := by simpa using hbt
            exact h3 (Or.inr ⟨this, by omega⟩)
          · intro h0 he
            show dg u 0 = 0
            rw [eh]
            rcases Nat.eq_zero_or_pos (c.toNat / 16) with hz | hz
            · exact hz
            · exact absurd (Or.inr ⟨h0, he, by omega⟩) h1
theorem packR_yes {l : List UInt8} {d s : Int} (h : (packR l d s).2 = 0) : (toR l d s).2 = 0 := by
  unfold packR at h
  split at h
  · assumption
  · exact h
/-- What was packed is unpacked to the cut text; its length. -/
theorem unpack_pack {l : List UInt8} {d s : Int} (h : (packR l d s).2 = 0) : (unpackR (packR l d s).1 d s).1 = (cutR l s).1 ∧ (unpackR (packR l d s).1 d s).2.2 = 0 ∧ (cutR l s).2 = 0 ∧ (((packR l d s).1.length : Nat) : Int) = (lenR d).1 := by
  have ht := packR_yes h
  obtain ⟨hp, hf, n, rfl, hn, hd, hd2, e⟩ := toR_yes ht
  obtain ⟨d1, d2, d3, d4⟩ := fmB_of hf
  obtain ⟨D, rfl⟩ : ∃ D : Nat, d = D := ⟨d.toNat, by omega⟩
  have e1 : (packR l D n).1 = packB (scU (uOf l) (sOf l) n) (sgB (sgn (negOf l) (scU (uOf l) (sOf l) n))) (D / 2 + 1) := by
    unfold packR; rw [if_pos ht, Int.toNat_natCast, Int.toNat_natCast]
  have ec : cutR l n = (txt (negOf l) (scU (uOf l) (sOf l) n) n, 0) := by
    unfold cutR; rw [if_pos hp, if_pos ⟨d3, by omega⟩, Int.toNat_natCast]; exact if_pos hd
  rw [e1, ec]
  generalize scU (uOf l) (sOf l) n = U at *
  have hU : U < 10 ^ D := lt_of_dl (by omega) (by omega)
  have hk := unpk_pack U (D / 2 + 1) (sgn (negOf l) U) (decide ((D : Int) % 2 = 0)) (fun hb h0 => by subst h0; simp [sgn] at hb)
    (Nat.lt_of_lt_of_le hU (Nat.pow_le_pow_right (by decide) (by omega)))
    (fun he => by
      have : (D : Int) % 2 = 0 := by simpa using he
      exact Nat.lt_of_lt_of_le hU (Nat.pow_le_pow_right (by decide) (by omega))) (D / 2 + 1) 0 (by omega) (by omega)
  rw [List.drop_zero, Nat.div_eq_of_lt (Nat.lt_of_lt_of_le hU (Nat.pow_le_pow_right (by decide) (by omega)))] at hk
  have eu : unpackR (packB U (sgB (sgn (negOf l) U)) (D / 2 + 1)) D n = (txt (negOf l) U n, 0, 0) := by
    unfold unpackR
    rw [if_pos hf, packB_length, if_pos (by omega), hk, Int.toNat_natCast]
    show (txt (sgn (negOf l) U) U n, (0 : Int), (0 : Int)) = _
    rw [txt_sgn]
  rw [eu]
  refine ⟨rfl, rfl, rfl, ?_⟩
  rw [packB_length]
  unfold lenR
  rw [if_pos (by unfold fmB; simp; omega)]
  omega
/-- What was unpacked is packed to the same bytes. -/
theorem pack_unpack {l : List UInt8} {d s : Int} (h : (unpackR l d s).2.2 = 0) : (unpackR l d s).1.length ≤ 500 ∧ packR (unpackR l d s).1 d s = (l, 0) := by
  unfold unpackR at h ⊢
  by_cases hf : fmB d s = true
  · rw [if_pos hf] at h ⊢
    by_cases hl : (l.length : Int) = d / 2 + 1
    · rw [if_pos hl] at h ⊢
      obtain ⟨d1, d2, d3, d4⟩ := fmB_of hf
      obtain ⟨D, rfl⟩ : ∃ D : Nat, d = D := ⟨d.toNat, by omega⟩
      obtain ⟨n, rfl⟩ : ∃ n : Nat, s = n := ⟨s.toNat, by omega⟩
      have hL : l.length = D / 2 + 1 := by omega
      cases hu : unpk l.length (decide ((D : Int) % 2 = 0)) l 0 0 with
      | inl i => rw [hu] at h; exact absurd h (by simp [unpT])
      | inr q =>
        obtain ⟨b, u⟩ := q
        obtain ⟨g1, g2, g3, g4⟩ := unpk_inv l.length _ b u l 0 0 (by omega) hu
        have hb1 : u < 10 ^ (2 * l.length - 1) := by
          rcases Nat.lt_or_ge u (10 ^ (2 * l.length - 1)) with h | h
          · exact h
          · have := Nat.div_pos h (Nat.pow_pos (by decide)); omega
        have hbD : u < 10 ^ D := by
          by_cases he : D % 2 = 0
          · have h0 := g4 rfl (by simp; omega)
            have := lt_of_dg_zero (i := 2 * l.length - 2) (by rw [show 2 * l.length - 2 + 1 = 2 * l.length - 1 by omega]; exact hb1) h0
            rw [show 2 * l.length - 2 = D by omega] at this
            exact this
          · rw [show 2 * l.length - 1 = D by omega] at hb1
            exact hb1
        have hd : dl u ≤ D := dl_le_of (by omega) hbD
        have g : Good b u n := ⟨by omega, by omega, g3⟩
        have hsg : sgn b u = b := by
          unfold sgn
          cases b with
          | false => rfl
          | true => rw [beq_eq_false_iff_ne.2 (g3 rfl)]; rfl
        obtain ⟨q1, q2, q3, q4, q5⟩ := txt_parts (N := b) (U := u) (n := n) (by omega) (by omega)
        rw [hsg] at q2
        rw [Int.toNat_natCast]
        refine ⟨q5, ?_⟩
        show packR (txt b u n) D n = (l, 0)
        have et : toR (txt b u n) D n = (txt b u n, 0) := by
          unfold toR
          rw [if_pos q1, if_pos hf, Int.toNat_natCast, q3, q4, scU_self, if_pos (by omega), q2]
        unfold packR
        rw [et, if_pos rfl, Int.toNat_natCast, Int.toNat_natCast, q3, q4, scU_self, q2, hsg]
        congr 1
        apply List.ext_getElem
        · rw [packB_length, hL]
        · intro k h1 h2
          have e1 := packB_get u (sgB b) (D / 2 + 1) k (by rw [← hL]; exact h2)
          rw [List.getElem?_eq_getElem h1] at e1
          rw [Option.some.inj e1, ← UInt8.toNat_inj, pb_nat (sgB_lt b), g1 k h2, hL]
    · rw [if_neg hl] at h; exact absurd h (by decide)
  · rw [if_neg hf] at h; exact absurd h (by decide)
end Go.Proofs.Ytkcogoibaodbeaa
namespace Go.Proofs.Ytkcogoibaodbeaa
open Go.RowKit
attribute [local irreducible] ncells wcells txt packC packB
set_option maxRecDepth 100000 in
set_option maxHeartbeats 2000000 in
theorem pack_true (x : List UInt8) (U s d : Nat) (w : World) (TO : ∀ w, Calls Try.prog 16 #[.string ⟨x.toArray⟩, .int .i64 d, .int .i64 s] w fun e w' => e = .returned (.tuple #[.string ⟨(txt true U s).toArray⟩, .int .i64 0]) ∧ Below w.heap.size w w') (hc : Good true U s) (h1 : 1 ≤ d) (h2 : d ≤ 31) :
    Calls Try.prog 18 #[.string ⟨x.toArray⟩, .int .i64 d, .int .i64 s] w fun e w' => e = .returned (.tuple #[.string ⟨(packB U 13 (d / 2 + 1)).toArray⟩, .int .i64 0]) ∧ Below w.heap.size w w' := by
  have GC := Lib.hid hc
  clear hc
  have wd : IntKind.i64.wrap ((d : Int) / 2 + 1) = (d : Int) / 2 + 1 := IntWalk.i64_in _ (by omega)
  have wd1 : IntKind.i64.wrap ((d : Int) / 2) = (d : Int) / 2 := IntWalk.i64_in _ (by omega)
  obtain ⟨L, hL⟩ : ∃ L, d / 2 + 1 = L := ⟨_, rfl⟩
  rw [hL]
  have hL1 : (d : Int) / 2 + 1 = (L : Int) := by omega
  have hL2 : 1 ≤ L := by omega
  have hL3 : L ≤ 16 := by omega
  have TO' := Lib.hid TO
  clear TO
  have hmk : ∀ w, (Instr.makeSlice 67 (.int .i64 (L : Int)) (.int .i64 (L : Int))).run Try.prog w = .ok (.slice (some ⟨w.heap.size, 0, none⟩) L L) (w.alloc (.cells (packC U 13 L 0) 5)) := fun w => by
    rw [← packC_zero]
    exact run_make_row' 67 5 (.int .u8 0) 1 rfl (by kernel_rfl) rfl _ _ L (by omega) (by omega) w
  go_enter Try.func18, Try.ntmps18
  go_wp2_with (first
    | (go_at_call 16; refine (TO'.out _).mono ?_; rintro e w1 ⟨rfl, hb⟩; have K1 := (Blk.nil w).kept hb; clear hb)
    | (go_at_call 50; refine (parse_yes _ _ _ _ GC.out).mono ?_; rintro e w2 ⟨rfl, hb⟩; have K2 := K1.kept hb; clear hb; have X2 := ((Blk.nil w2).lay rfl (ncells true U s) 46).lay (by simp) (packC U 13 L 0) 5))
  have X3 : Blk w2 _ [ncells true U s, packC U 13 L 0] := X2
  go_loopw [39] (fun s39 W => ∃ i : Nat, i ≤ L ∧ s39 = .int .i64 (i : Int) ∧ Blk w2 W [ncells true U s, packC U 13 L i]) (fun s39 _ => L - (intOf s39).toNat)
  case atStart => exact ⟨0, by omega, rfl, X3⟩
  case round =>
    obtain ⟨i, hi, rfl, T1⟩ := hrel
    clear X2 X3
    by_cases hlt : i < L
    · have ht : (i : Int) < (L : Int) := by omega
      obtain ⟨J, hJ⟩ : ∃ J, L - 1 - i = J := ⟨_, rfl⟩
      have hJ1 : (L : Int) - 1 - (i : Int) = (J : Int) := by omega
      have hJ2 : (J : Int) < (L : Int) := by omega
      have wL : IntKind.i64.wrap ((L : Int) - 1) = (L : Int) - 1 := IntWalk.i64_in _ (by omega)
      have wJ : IntKind.i64.wrap (J : Int) = (J : Int) := IntWalk.i64_in _ (by omega)
      have hJ3 : J < L := by omega
      by_cases h0 : i = 0
      · subst h0
        have hJ0 : (L : Int) - 1 = (J : Int) := by omega
        have c1 : World.cell? _ ⟨w2.heap.size, 1, none⟩ = some (.int .u8 (dg U 0)) := (T1.cell 0 rfl 1).trans (by rw [ncells_get _ _ _ _ (by omega), if_neg (by omega), if_neg (by omega)])
        have c3 : World.cell? _ ⟨w2.heap.size + 1, J, none⟩ = some (.int .u8 0) := (T1.cell 1 rfl J).trans (by rw [packC_get _ _ _ _ _ hJ3, if_neg (by omega)])
        have z3 : World.frozen? _ ⟨w2.heap.size + 1, J, none⟩ = _ := T1.frozen 1 rfl J
        have hv1 : (dg U 0 : Int) * 16 % 256 = (dg U 0 : Int) * 16 := by have := dg_lt U 0; omega
        go_wp2
        have hv2 : bits .or .u8 ((dg U 0 : Int) * 16) (13 : Int) = ((pb U 13 0 : Nat) : Int) := or_half' (y := 13) (dg_lt U 0) (by decide)
        rw [hv2]
        refine ⟨⟨0 + 1, by omega, rfl, ?_⟩, by simp [intOf]; omega⟩
        rw [← packC_set U 13 L 0 hlt, hJ]
        have T2 := ((T1.set 1 rfl J (.int .u8 ((dg U 0 : Int) * 16))).set 1 rfl J (.int .u8 ((pb U 13 0 : Nat) : Int)))
        rw [Array.setIfInBounds_setIfInBounds] at T2
        exact T2
      · have hi0 : (i : Int) ≠ 0 := by omega
        obtain ⟨I, hI⟩ : ∃ I, 2 * i = I := ⟨_, rfl⟩
        obtain ⟨I', hI'⟩ : ∃ I', 2 * i - 1 = I' := ⟨_, rfl⟩
        have hI1 : 2 * (i : Int) = (I : Int) := by omega
        have hI2 : (I : Int) - 1 = (I' : Int) := by omega
        have hI3 : (I : Int) < 128 := by omega
        have hI4 : (I' : Int) < 128 := by omega
        have hI5 : I < 128 := by omega
        have hI6 : I' < 128 := by omega
        have wI : IntKind.i64.wrap (I : Int) = (I : Int) := IntWalk.i64_in _ (by omega)
        have wI2 : IntKind.i64.wrap (I' : Int) = (I' : Int) := IntWalk.i64_in _ (by omega)
        have c1 : World.cell? _ ⟨w2.heap.size, 1 + I, none⟩ = some (.int .u8 (dg U I)) := (T1.cell 0 rfl (1 + I)).trans (by rw [ncells_get _ _ _ _ (by omega), if_neg (by omega), if_neg (by omega), show 1 + I - 1 = I by omega])
        have c2 : World.cell? _ ⟨w2.heap.size, 1 + I', none⟩ = some (.int .u8 (dg U I')) := (T1.cell 0 rfl (1 + I')).trans (by rw [ncells_get _ _ _ _ (by omega), if_neg (by omega), if_neg (by omega), show 1 + I' - 1 = I' by omega])
        have c3 : World.cell? _ ⟨w2.heap.size + 1, J, none⟩ = some (.int .u8 0) := (T1.cell 1 rfl J).trans (by rw [packC_get _ _ _ _ _ hJ3, if_neg (by omega)])
        have z3 : World.frozen? _ ⟨w2.heap.size + 1, J, none⟩ = _ := T1.frozen 1 rfl J
        have hv1 : (dg U I : Int) * 16 % 256 = (dg U I : Int) * 16 := by have := dg_lt U I; omega
        have n2 : w2.heap.size ≠ w2.heap.size + 1 := by omega
        go_wp2
        go_region
        all_goals go_wp2
        have hv2 : bits .or .u8 ((dg U I : Int) * 16) (dg U I' : Int) = ((pb U 13 i : Nat) : Int) := by
          rw [or_half' (dg_lt U I) (Nat.lt_trans (dg_lt U I') (by decide))]
          unfold pb
          rw [if_neg h0, hI, show I - 1 = I' by omega]
        rw [hv2]
        refine ⟨⟨i + 1, by omega, rfl, ?_⟩, by simp [intOf]; omega⟩
        rw [← packC_set U 13 L i hlt, hJ]
        have T2 := ((T1.set 1 rfl J (.int .u8 ((dg U I : Int) * 16))).set 1 rfl J (.int .u8 ((pb U 13 i : Nat) : Int))).drew
        rw [Array.setIfInBounds_setIfInBounds] at T2
        exact T2
    · obtain rfl : i = L := by omega
      have hcv := conv_pack U 13 i wr (w2.heap.size + 1) (by decide) (T1.row 1 _ rfl)
      go_wp2
      go_ret2
      exact ⟨rfl, (K2.kept T1.below).below⟩
set_option maxRecDepth 100000 in
set_option maxHeartbeats 2000000 in
theorem pack_false (x : List UInt8) (U s d : Nat) (w : World) (TO : ∀ w, Calls Try.prog 16 #[.string ⟨x.toArray⟩, .int .i64 d, .int .i64 s] w fun e w' => e = .returned (.tuple #[.string ⟨(txt false U s).toArray⟩, .int .i64 0]) ∧ Below w.heap.size w w') (hc : Good false U s) (h1 : 1 ≤ d) (h2 : d ≤ 31) :
    Calls Try.prog 18 #[.string ⟨x.toArray⟩, .int .i64 d, .int .i64 s] w fun e w' => e = .returned (.tuple #[.string ⟨(packB U 12 (d / 2 + 1)).toArray⟩, .int .i64 0]) ∧ Below w.heap.size w w' := by
  have GC := Lib.hid hc
  clear hc
  have wd : IntKind.i64.wrap ((d : Int) / 2 + 1) = (d : Int) / 2 + 1 := IntWalk.i64_in _ (by omega)
  have wd1 : IntKind.i64.wrap ((d : Int) / 2) = (d : Int) / 2 := IntWalk.i64_in _ (by omega)
  obtain ⟨L, hL⟩ : ∃ L, d / 2 + 1 = L := ⟨_, rfl⟩
  rw [hL]
  have hL1 : (d : Int) / 2 + 1 = (L : Int) := by omega
  have hL2 : 1 ≤ L := by omega
  have hL3 : L ≤ 16 := by omega
  have TO' := Lib.hid TO
  clear TO
  have hmk : ∀ w, (Instr.makeSlice 67 (.int .i64 (L : Int)) (.int .i64 (L : Int))).run Try.prog w = .ok (.slice (some ⟨w.heap.size, 0, none⟩) L L) (w.alloc (.cells (packC U 12 L 0) 5)) := fun w => by
    rw [← packC_zero]
    exact run_make_row' 67 5 (.int .u8 0) 1 rfl (by kernel_rfl) rfl _ _ L (by omega) (by omega) w
  go_enter Try.func18, Try.ntmps18
  go_wp2_with (first
    | (go_at_call 16; refine (TO'.out _).mono ?_; rintro e w1 ⟨rfl, hb⟩; have K1 := (Blk.nil w).kept hb; clear hb)
    | (go_at_call 50; refine (parse_yes _ _ _ _ GC.out).mono ?_; rintro e w2 ⟨rfl, hb⟩; have K2 := K1.kept hb; clear hb; have X2 := ((Blk.nil w2).lay rfl (ncells false U s) 46).lay (by simp) (packC U 12 L 0) 5))
  have X3 : Blk w2 _ [ncells false U s, packC U 12 L 0] := X2
  go_loopw [39] (fun s39 W => ∃ i : Nat, i ≤ L ∧ s39 = .int .i64 (i : Int) ∧ Blk w2 W [ncells false U s, packC U 12 L i]) (fun s39 _ => L - (intOf s39).toNat)
  case atStart => exact ⟨0, by omega, rfl, X3⟩
  case round =>
    obtain ⟨i, hi, rfl, T1⟩ := hrel
    clear X2 X3
    by_cases hlt : i < L
    · have ht : (i : Int) < (L : Int) := by omega
      obtain ⟨J, hJ⟩ : ∃ J, L - 1 - i = J := ⟨_, rfl⟩
      have hJ1 : (L : Int) - 1 - (i : Int) = (J : Int) := by omega
      have hJ2 : (J : Int) < (L : Int) := by omega
      have wL : IntKind.i64.wrap ((L : Int) - 1) = (L : Int) - 1 := IntWalk.i64_in _ (by omega)
      have wJ : IntKind.i64.wrap (J : Int) = (J : Int) := IntWalk.i64_in _ (by omega)
      have hJ3 : J < L := by omega
      by_cases h0 : i = 0
      · subst h0
        have hJ0 : (L : Int) - 1 = (J : Int) := by omega
        have c1 : World.cell? _ ⟨w2.heap.size, 1, none⟩ = some (.int .u8 (dg U 0)) := (T1.cell 0 rfl 1).trans (by rw [ncells_get _ _ _ _ (by omega), if_neg (by omega), if_neg (by omega)])
        have c3 : World.cell? _ ⟨w2.heap.size + 1, J, none⟩ = some (.int .u8 0) := (T1.cell 1 rfl J).trans (by rw [packC_get _ _ _ _ _ hJ3, if_neg (by omega)])
        have z3 : World.frozen? _ ⟨w2.heap.size + 1, J, none⟩ = _ := T1.frozen 1 rfl J
        have hv1 : (dg U 0 : Int) * 16 % 256 = (dg U 0 : Int) * 16 := by have := dg_lt U 0; omega
        go_wp2
        have hv2 : bits .or .u8 ((dg U 0 : Int) * 16) (12 : Int) = ((pb U 12 0 : Nat) : Int) := or_half' (y := 12) (dg_lt U 0) (by decide)
        rw [hv2]
        refine ⟨⟨0 + 1, by omega, rfl, ?_⟩, by simp [intOf]; omega⟩
        rw [← packC_set U 12 L 0 hlt, hJ]
        have T2 := ((T1.set 1 rfl J (.int .u8 ((dg U 0 : Int) * 16))).set 1 rfl J (.int .u8 ((pb U 12 0 : Nat) : Int)))
        rw [Array.setIfInBounds_setIfInBounds] at T2
        exact T2
      · have hi0 : (i : Int) ≠ 0 := by omega
        obtain ⟨I, hI⟩ : ∃ I, 2 * i = I := ⟨_, rfl⟩
        obtain ⟨I', hI'⟩ : ∃ I', 2 * i - 1 = I' := ⟨_, rfl⟩
        have hI1 : 2 * (i : Int) = (I : Int) := by omega
        have hI2 : (I : Int) - 1 = (I' : Int) := by omega
        have hI3 : (I : Int) < 128 := by omega
        have hI4 : (I' : Int) < 128 := by omega
        have hI5 : I < 128 := by omega
        have hI6 : I' < 128 := by omega
        have wI : IntKind.i64.wrap (I : Int) = (I : Int) := IntWalk.i64_in _ (by omega)
        have wI2 : IntKind.i64.wrap (I' : Int) = (I' : Int) := IntWalk.i64_in _ (by omega)
        have c1 : World.cell? _ ⟨w2.heap.size, 1 + I, none⟩ = some (.int .u8 (dg U I)) := (T1.cell 0 rfl (1 + I)).trans (by rw [ncells_get _ _ _ _ (by omega), if_neg (by omega), if_neg (by omega), show 1 + I - 1 = I by omega])
        have c2 : World.cell? _ ⟨w2.heap.size, 1 + I', none⟩ = some (.int .u8 (dg U I')) := (T1.cell 0 rfl (1 + I')).trans (by rw [ncells_get _ _ _ _ (by omega), if_neg (by omega), if_neg (by omega), show 1 + I' - 1 = I' by omega])
        have c3 : World.cell? _ ⟨w2.heap.size + 1, J, none⟩ = some (.int .u8 0) := (T1.cell 1 rfl J).trans (by rw [packC_get _ _ _ _ _ hJ3, if_neg (by omega)])
        have z3 : World.frozen? _ ⟨w2.heap.size + 1, J, none⟩ = _ := T1.frozen 1 rfl J
        have hv1 : (dg U I : Int) * 16 % 256 = (dg U I : Int) * 16 := by have := dg_lt U I; omega
        have n2 : w2.heap.size ≠ w2.heap.size + 1 := by omega
        go_wp2
        go_region
        all_goals go_wp2
        have hv2 : bits .or .u8 ((dg U I : Int) * 16) (dg U I' : Int) = ((pb U 12 i : Nat) : Int) := by
          rw [or_half' (dg_lt U I) (Nat.lt_trans (dg_lt U I') (by decide))]
          unfold pb
          rw [if_neg h0, hI, show I - 1 = I' by omega]
        rw [hv2]
        refine ⟨⟨i + 1, by omega, rfl, ?_⟩, by simp [intOf]; omega⟩
        rw [← packC_set U 12 L i hlt, hJ]
        have T2 := ((T1.set 1 rfl J (.int .u8 ((dg U I : Int) * 16))).set 1 rfl J (.int .u8 ((pb U 12 i : Nat) : Int))).drew
        rw [Array.setIfInBounds_setIfInBounds] at T2
        exact T2
    · obtain rfl : i = L := by omega
      have hcv := conv_pack U 12 i wr (w2.heap.size + 1) (by decide) (T1.row 1 _ rfl)
      go_wp2
      go_ret2
      exact ⟨rfl, (K2.kept T1.below).below⟩
set_option maxRecDepth 100000 in
set_option maxHeartbeats 2000000 in
theorem pack_none (x : List UInt8) (s d : Int) (e : Int) (w : World) (TO : ∀ w, Calls Try.prog 16 #[.string ⟨x.toArray⟩, .int .i64 d, .int .i64 s] w fun e' w' => e' = .returned (.tuple #[.string ⟨#[]⟩, .int .i64 e]) ∧ Below w.heap.size w w') (he : e ≠ 0) :
    Calls Try.prog 18 #[.string ⟨x.toArray⟩, .int .i64 d, .int .i64 s] w fun e' w' => e' = .returned (.tuple #[.string ⟨#[]⟩, .int .i64 e]) ∧ Below w.heap.size w w' := by
  have TO' := Lib.hid TO
  clear TO
  go_enter Try.func18, Try.ntmps18
  go_wp2_with (go_at_call 16; refine (TO'.out _).mono ?_; rintro e w1 ⟨rfl, hb⟩; have K1 := (Blk.nil w).kept hb; clear hb)
  go_ret2
  exact ⟨rfl, K1.below⟩
theorem toR_none {l : List UInt8} {d s : Int} (h : (toR l d s).2 ≠ 0) : (toR l d s).1 = [] := by
  unfold toR at h ⊢
  by_cases hp : parseB l = true
  · rw [if_pos hp] at h ⊢
    by_cases hf : fmB d s = true
    · rw [if_pos hf] at h ⊢
      by_cases hd : (dl (scU (uOf l) (sOf l) s.toNat) : Int) ≤ d
      · rw [if_pos hd] at h; exact absurd rfl h
      · rw [if_neg hd]
    · rw [if_neg hf]
  · rw [if_neg hp]
theorem pack_all (l : List UInt8) (d s : Int) (w : World) (hl : l.length ≤ 500) :
    Calls Try.prog 18 #[.string ⟨l.toArray⟩, .int .i64 d, .int .i64 s] w fun e w' => e = .returned (.tuple #[.string ⟨(packR l d s).1.toArray⟩, .int .i64 (packR l d s).2]) ∧ Below w.heap.size w w' := by
  have TO : ∀ w, _ := fun w => to_all l d s w hl
  by_cases h : (toR l d s).2 = 0
  · obtain ⟨hp, hf, n, rfl, hn, hd, hd2, e⟩ := toR_yes h
    obtain ⟨d1, d2, d3, d4⟩ := fmB_of hf
    obtain ⟨D, rfl⟩ : ∃ D : Nat, d = D := ⟨d.toNat, by omega⟩
    have ep : packR l D n = (packB (scU (uOf l) (sOf l) n) (sgB (sgn (negOf l) (scU (uOf l) (sOf l) n))) (D / 2 + 1), 0) := by
      unfold packR; rw [if_pos h, Int.toNat_natCast, Int.toNat_natCast]
    rw [ep]
    rw [e, ← txt_sgn] at TO
    have g := good_sgn (negOf l) hd hn
    generalize scU (uOf l) (sOf l) n = U at *
    cases hb : sgn (negOf l) U with
    | false => rw [hb] at TO g; exact pack_false l U n D w TO g (by omega) (by omega)
    | true => rw [hb] at TO g; exact pack_true l U n D w TO g (by omega) (by omega)
  · have ep : packR l d s = ([], (toR l d s).2) := by unfold packR; rw [if_neg h]
    rw [ep]
    rw [toR_none h] at TO
    exact pack_none l s d _ w TO h
end Go.Proofs.Ytkcogoibaodbeaa
