/- The walk of FixedCuts. FixedCuts: its walk and what is plain about it, joined. -/
import Derived.Test.YtkcogoibaodbeaaRefM
import Derived.Test.YtkcogoibaodbeaaLong
import Derived.Test.YtkcogoibaodbeaaAwake
set_option linter.unusedVariables false
set_option linter.unusedSimpArgs false
namespace Go.Proofs.Ytkcogoibaodbeaa
open Go.RowKit
/-- What a call answers: a text and an error. -/
def CutSays (k : Nat) (x : ByteArray) (t : Int) (r : List UInt8 × Int) : Prop := ∀ w, Calls Try.prog k #[.string x, .int .i64 t] w fun e w' => e = .returned (.tuple #[.string ⟨r.1.toArray⟩, .int .i64 r.2]) ∧ Below w.heap.size w w'
def ToSays (k : Nat) (x : ByteArray) (d t : Int) (r : List UInt8 × Int) : Prop := ∀ w, Calls Try.prog k #[.string x, .int .i64 d, .int .i64 t] w fun e w' => e = .returned (.tuple #[.string ⟨r.1.toArray⟩, .int .i64 r.2]) ∧ Below w.heap.size w w'
def FitSays (k : Nat) (x : ByteArray) (d t : Int) (r : Bool) : Prop := ∀ w, Calls Try.prog k #[.string x, .int .i64 d, .int .i64 t] w fun e w' => e = .returned (.bool r) ∧ Below w.heap.size w w'
set_option maxRecDepth 100000 in
set_option maxHeartbeats 1000000 in
theorem cuts_long (x : ByteArray) (d t : Int) (w : World) (hx : x.size ≤ 1125899906842624) (h : 500 < x.size) :
    Calls Try.prog 3 #[.string x, .int .i64 d, .int .i64 t] w fun e w' => e = .returned (.bool true) ∧ Below w.heap.size w w' := by
  have T0 := (Blk.nil w).lay rfl #[.string x] 9
  have c0 : World.cell? _ ⟨w.heap.size, 0, none⟩ = some (.string x) := T0.cell 0 rfl 0
  have LO := long_one x w.heap.size _ hx c0
  rw [decide_eq_true h] at LO
  have LO' := Lib.hid LO
  clear LO
  go_enter Try.func3, Try.ntmps3
  go_wp2_with (first
    | (go_at_call 8; refine LO'.out.mono ?_; rintro e w1 ⟨rfl, rfl⟩)
    | (go_at_call 9; refine (awake_any _).mono ?_; rintro e w3 ⟨rfl, hb⟩; have K3 := T0.kept hb; clear hb))
  go_ret
  exact ⟨rfl, K3.below⟩
set_option maxRecDepth 100000 in
set_option maxHeartbeats 4000000 in
theorem cuts_walk (x : ByteArray) (d t : Int) (a b c : List UInt8) (ea eb ec : Int) (f : Bool) (w : World) (hx : x.size ≤ 500)
    (h1 : CutSays 10 x t (a, ea)) (h2 : CutSays 11 x t (a, ea)) (h3 : ea = 0 → CutSays 10 ⟨a.toArray⟩ t (a, 0))
    (h4 : CutSays 12 x t (b, eb)) (h5 : CutSays 13 x t (b, eb))
    (h6 : FitSays 14 x d t f) (h7 : FitSays 15 x d t f)
    (h8 : ToSays 16 x d t (c, ec)) (h9 : ToSays 17 x d t (c, ec)) (h10 : ec = 0 → FitSays 14 ⟨c.toArray⟩ d t true) :
    Calls Try.prog 3 #[.string x, .int .i64 d, .int .i64 t] w fun e w' => e = .returned (.bool true) ∧ Below w.heap.size w w' := by
  have T0 := (Blk.nil w).lay rfl #[.string x] 9
  have c0 : World.cell? _ ⟨w.heap.size, 0, none⟩ = some (.string x) := T0.cell 0 rfl 0
  have LO := long_one x w.heap.size _ (by omega) c0
  rw [decide_eq_false (by omega)] at LO
  have LO' := Lib.hid LO
  have H1 := Lib.hid h1
  have H2 := Lib.hid h2
  have H4 := Lib.hid h4
  have H5 := Lib.hid h5
  have H6 := Lib.hid h6
  have H7 := Lib.hid h7
  have H8 := Lib.hid h8
  have H9 := Lib.hid h9
  clear LO h1 h2 h4 h5 h6 h7 h8 h9
  by_cases za : ea = 0
  all_goals by_cases zc : ec = 0
  all_goals first | (have H3 := Lib.hid (h3 za)) | skip
  all_goals first | (have H10 := Lib.hid (h10 zc)) | skip
  all_goals
    clear h3 h10
    first | subst za | skip
    first | subst zc | skip
    go_enter Try.func3, Try.ntmps3
    go_wp2_with (first
      | (go_at_call 8; refine LO'.out.mono ?_; rintro e w1 ⟨rfl, rfl⟩; have KL := T0)
      | (go_at_call 10; have KK := K2; clear KK; refine (H3.out _).mono ?_; rintro e w3 ⟨rfl, hb⟩; have K3 := K2.kept hb; clear hb)
      | (go_at_call 10; refine (H1.out _).mono ?_; rintro e w1 ⟨rfl, hb⟩; have K1 := T0.kept hb; clear hb)
      | (go_at_call 11; refine (H2.out _).mono ?_; rintro e w2 ⟨rfl, hb⟩; have K2 := K1.kept hb; clear hb)
      | (go_at_call 12; refine (H4.out _).mono ?_; rintro e w4 ⟨rfl, hb⟩; have K4 := (by first | exact K3.kept hb | exact K2.kept hb); clear hb)
      | (go_at_call 13; refine (H5.out _).mono ?_; rintro e w5 ⟨rfl, hb⟩; have K5 := K4.kept hb; clear hb)
      | (go_at_call 14; have KK := K9; clear KK; refine (H10.out _).mono ?_; rintro e w10 ⟨rfl, hb⟩; have K10 := K9.kept hb; clear hb)
      | (go_at_call 14; refine (H6.out _).mono ?_; rintro e w6 ⟨rfl, hb⟩; have K6 := K5.kept hb; clear hb)
      | (go_at_call 15; refine (H7.out _).mono ?_; rintro e w7 ⟨rfl, hb⟩; have K7 := K6.kept hb; clear hb)
      | (go_at_call 16; refine (H8.out _).mono ?_; rintro e w8 ⟨rfl, hb⟩; have K8 := K7.kept hb; clear hb)
      | (go_at_call 17; refine (H9.out _).mono ?_; rintro e w9 ⟨rfl, hb⟩; have K9 := K8.kept hb; clear hb)
      | (go_at_call 9; have KK := K9; clear KK; refine (awake_any _).mono ?_; rintro e w11 ⟨rfl, hb⟩; have K11 := (by first | exact K10.kept hb | exact K9.kept hb); clear hb))
    go_ret
    exact ⟨rfl, K11.below⟩
end Go.Proofs.Ytkcogoibaodbeaa
namespace Go.Proofs.Ytkcogoibaodbeaa
open Go.RowKit
theorem txt_parts {N : Bool} {U n : Nat} (hU : dl U ≤ 31) (hn : n ≤ 31) : parseB (txt N U n) = true ∧ negOf (txt N U n) = sgn N U ∧ uOf (txt N U n) = U ∧ sOf (txt N U n) = n ∧ (txt N U n).length ≤ 500 := by
  have g := good_sgn N hU hn
  have h := good_parse g
  have hb := parseB_txt g
  have hl := good_length g
  rw [txt_sgn] at h hb hl
  exact ⟨hb, h.1, h.2.1, h.2.2.1, hl⟩
theorem cutR_yes {l : List UInt8} {t : Int} (h : (cutR l t).2 = 0) : parseB l = true ∧ ∃ n : Nat, t = n ∧ n ≤ 31 ∧ dl (scU (uOf l) (sOf l) n) ≤ 31 ∧ cutR l t = (txt (negOf l) (scU (uOf l) (sOf l) n) n, 0) := by
  unfold cutR at h
  by_cases hp : parseB l = true
  · rw [if_pos hp] at h
    by_cases ht : 0 ≤ t ∧ t ≤ 31
    · rw [if_pos ht] at h
      obtain ⟨n, rfl⟩ : ∃ n : Nat, t = n := ⟨t.toNat, by omega⟩
      rw [Int.toNat_natCast] at h
      by_cases hd : dl (scU (uOf l) (sOf l) n) ≤ 31
      · refine ⟨hp, n, rfl, by omega, hd, ?_⟩
        unfold cutR
        rw [if_pos hp, if_pos ht, Int.toNat_natCast, show wholeR (negOf l) (scU (uOf l) (sOf l) n) n = _ from if_pos hd]
      · rw [show wholeR (negOf l) (scU (uOf l) (sOf l) n) n = ([], 4) from if_neg hd] at h
        exact absurd h (by decide)
    · rw [if_neg ht] at h; exact absurd h (by decide)
  · rw [if_neg hp] at h; exact absurd h (by decide)
theorem cut_twice {l : List UInt8} {t : Int} (h : (cutR l t).2 = 0) : (cutR l t).1.length ≤ 500 ∧ cutR (cutR l t).1 t = ((cutR l t).1, 0) := by
  obtain ⟨hp, n, rfl, hn, hd, e⟩ := cutR_yes h
  rw [e]
  obtain ⟨q1, q2, q3, q4, q5⟩ := txt_parts (N := negOf l) hd hn
  refine ⟨q5, ?_⟩
  show cutR (txt (negOf l) (scU (uOf l) (sOf l) n) n) n = _
  unfold cutR
  rw [if_pos q1, if_pos (by omega), Int.toNat_natCast, q2, q3, q4, scU_self]
  unfold wholeR
  rw [if_pos hd, txt_sgn]
theorem toR_yes {l : List UInt8} {d s : Int} (h : (toR l d s).2 = 0) : parseB l = true ∧ fmB d s = true ∧ ∃ n : Nat, s = n ∧ n ≤ 31 ∧ dl (scU (uOf l) (sOf l) n) ≤ 31 ∧ (dl (scU (uOf l) (sOf l) n) : Int) ≤ d ∧ toR l d s = (txt (negOf l) (scU (uOf l) (sOf l) n) n, 0) := by
  unfold toR at h
  by_cases hp : parseB l = true
  · rw [if_pos hp] at h
    by_cases hf : fmB d s = true
    · rw [if_pos hf] at h
      obtain ⟨d1, d2, d3, d4⟩ := fmB_of hf
      obtain ⟨n, rfl⟩ : ∃ n : Nat, s = n := ⟨s.toNat, by omega⟩
      rw [Int.toNat_natCast] at h
      by_cases hd : (dl (scU (uOf l) (sOf l) n) : Int) ≤ d
      · refine ⟨hp, hf, n, rfl, by omega, by omega, hd, ?_⟩
        unfold toR
        rw [if_pos hp, if_pos hf, Int.toNat_natCast, if_pos hd]
      · rw [if_neg hd] at h; exact absurd h (by decide)
    · rw [if_neg hf] at h; exact absurd h (by decide)
  · rw [if_neg hp] at h; exact absurd h (by decide)
theorem fit_to {l : List UInt8} {d s : Int} (h : (toR l d s).2 = 0) : (toR l d s).1.length ≤ 500 ∧ fitsR (toR l d s).1 d s = true := by
  obtain ⟨hp, hf, n, rfl, hn, hd, hd2, e⟩ := toR_yes h
  rw [e]
  obtain ⟨q1, q2, q3, q4, q5⟩ := txt_parts (N := negOf l) hd hn
  refine ⟨q5, ?_⟩
  show fitsR (txt (negOf l) (scU (uOf l) (sOf l) n) n) d n = true
  unfold fitsR
  rw [q1, q3, q4, hf, decide_eq_true rfl, decide_eq_true hd2]
  rfl
theorem cuts_any (x : ByteArray) (d t : Int) (w : World) (hx : x.size ≤ 1125899906842624) :
    Calls Try.prog 3 #[.string x, .int .i64 d, .int .i64 t] w fun e w' => e = .returned (.bool true) ∧ Below w.heap.size w w' := by
  by_cases h : 500 < x.size
  · exact cuts_long x d t w hx h
  · obtain ⟨l, rfl⟩ : ∃ l : List UInt8, x = ⟨l.toArray⟩ := ⟨x.data.toList, by cases x; simp⟩
    have hl : l.length ≤ 500 := by simpa [ByteArray.size] using (show ¬ 500 < _ from h)
    refine cuts_walk ⟨l.toArray⟩ d t (cutR l t).1 (roundR l t).1 (toR l d t).1 (cutR l t).2 (roundR l t).2 (toR l d t).2 (fitsR l d t) w (by omega)
      (fun w => cut_all l t w hl) (fun w => rcut_all l t w hl) (fun h0 => ?_) (fun w => round_all l t w hl) (fun w => rround_all l t w hl)
      (fun w => fits_all l d t w hl) (fun w => rfits_all l d t w hl) (fun w => to_all l d t w hl) (fun w => rto_all l d t w hl) (fun h0 => ?_)
    · obtain ⟨h1, h2⟩ := cut_twice h0
      intro w
      have := cut_all (cutR l t).1 t w h1
      rw [h2] at this
      exact this
    · obtain ⟨h1, h2⟩ := fit_to h0
      intro w
      have := fits_all (toR l d t).1 d t w h1
      rw [h2] at this
      exact this
end Go.Proofs.Ytkcogoibaodbeaa
