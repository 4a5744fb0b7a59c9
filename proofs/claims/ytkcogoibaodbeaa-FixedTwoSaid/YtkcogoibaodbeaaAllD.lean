/- Package fixed for all texts and numbers: formed, Cut. Package fixed for all texts and numbers: Fits, To, Length. Package fixed for all texts and numbers: To, Length, Round. Package fixed for all texts and numbers: Round. -/
import Derived.Test.YtkcogoibaodbeaaNo
import Derived.Test.YtkcogoibaodbeaaRefScan
set_option linter.unusedVariables false
set_option linter.unusedSimpArgs false
namespace Go.Proofs.Ytkcogoibaodbeaa
open Go.RowKit
attribute [local irreducible] ncells wcells txt
/-- Are digits and a scale right? -/
def fmB (d s : Int) : Bool := decide (1 ≤ d ∧ d ≤ 31 ∧ 0 ≤ s ∧ s ≤ d)
set_option maxRecDepth 100000 in
set_option maxHeartbeats 1000000 in
theorem formed_any (d s : Int) (w : World) :
    Calls Try.prog 51 #[.int .i64 d, .int .i64 s] w fun e w' => e = .returned (.bool (fmB d s)) ∧ Below w.heap.size w w' := by
  by_cases h : 1 ≤ d ∧ d ≤ 31 ∧ 0 ≤ s ∧ s ≤ d
  · rw [show fmB d s = true from decide_eq_true h]
    exact formed_yes d s w h.1 h.2.1 h.2.2.1 h.2.2.2
  · rw [show fmB d s = false from decide_eq_false h]
    rcases (show ¬ 1 ≤ d ∨ (1 ≤ d ∧ ¬ d ≤ 31) ∨ (1 ≤ d ∧ d ≤ 31 ∧ ¬ 0 ≤ s) ∨ (1 ≤ d ∧ d ≤ 31 ∧ 0 ≤ s ∧ ¬ s ≤ d) by omega) with h1 | ⟨h1, h2⟩ | ⟨h1, h2, h3⟩ | ⟨h1, h2, h3, h4⟩
    all_goals
      clear h
      go_enter Try.func51, Try.ntmps51
      go_wp2
      go_ret
      exact ⟨rfl, Below.refl _ _⟩
/-- A text's scale. -/
def sOf (l : List UInt8) : Nat := (partOf l).length
theorem valid_all (l : List UInt8) (w : World) (hl : l.length ≤ 500) :
    Calls Try.prog 56 #[.string ⟨l.toArray⟩] w fun e w' => e = .returned (.bool (parseB l)) ∧ Below w.heap.size w w' := by
  cases h : parseB l with
  | false => exact valid_no l w hl h
  | true =>
    obtain ⟨g, ht⟩ := parseB_good h
    have := valid_yes _ _ _ w g
    rw [ht] at this
    exact this
/-- What Cut answers. -/
def cutR (l : List UInt8) (t : Int) : List UInt8 × Int := if parseB l = true then (if 0 ≤ t ∧ t ≤ 31 then wholeR (negOf l) (scU (uOf l) (sOf l) t.toNat) t.toNat else ([], 7)) else ([], 2)
set_option maxRecDepth 100000 in
set_option maxHeartbeats 1000000 in
theorem cutfn_no (l : List UInt8) (t : Int) (F : Value) (w : World) (hl : l.length ≤ 500) (h : parseB l = false ∨ ¬ (0 ≤ t ∧ t ≤ 31)) :
    Calls Try.prog 38 #[.string ⟨l.toArray⟩, .int .i64 t, F] w fun e w' => e = .returned (.tuple #[.string ⟨#[]⟩, .int .i64 (if parseB l = true then 7 else 2)]) ∧ Below w.heap.size w w' := by
  have V := Lib.hid (fun w => valid_all l w hl)
  clear hl
  cases hp : parseB l with
  | false =>
    rw [hp] at V
    clear h
    go_enter Try.func38, Try.ntmps38
    go_wp2_with (go_at_call 56; refine (V.out _).mono ?_; rintro e w1 ⟨rfl, hb⟩; have K1 := (Blk.nil w).kept hb; clear hb)
    go_ret2
    exact ⟨rfl, K1.below⟩
  | true =>
    rw [hp] at V h
    have h' : ¬ (0 ≤ t ∧ t ≤ 31) := by simpa using h
    clear h
    rcases (show t < 0 ∨ (¬ t < 0 ∧ 31 < t) by omega) with h1 | ⟨h1, h2⟩
    all_goals
      clear h'
      go_enter Try.func38, Try.ntmps38
      go_wp2_with (go_at_call 56; refine (V.out _).mono ?_; rintro e w1 ⟨rfl, hb⟩; have K1 := (Blk.nil w).kept hb; clear hb)
      go_ret2
      exact ⟨rfl, K1.below⟩
theorem cutR_no {l : List UInt8} {t : Int} (h : parseB l = false ∨ ¬ (0 ≤ t ∧ t ≤ 31)) : cutR l t = ([], if parseB l = true then 7 else 2) := by
  unfold cutR
  cases hp : parseB l with
  | false => simp
  | true =>
    rw [hp] at h
    have h' : ¬ (0 ≤ t ∧ t ≤ 31) := by simpa using h
    rw [if_pos rfl, if_neg h']; rfl
set_option maxRecDepth 100000 in
set_option maxHeartbeats 1000000 in
theorem cut_all (l : List UInt8) (t : Int) (w : World) (hl : l.length ≤ 500) :
    Calls Try.prog 10 #[.string ⟨l.toArray⟩, .int .i64 t] w fun e w' => e = .returned (.tuple #[.string ⟨(cutR l t).1.toArray⟩, .int .i64 (cutR l t).2]) ∧ Below w.heap.size w w' := by
  by_cases h : parseB l = false ∨ ¬ (0 ≤ t ∧ t ≤ 31)
  · rw [cutR_no h]
    have V := Lib.hid (fun F w => cutfn_no l t F w hl h)
    obtain ⟨z, hz⟩ : ∃ z : Int, (if parseB l = true then 7 else 2) = z := ⟨_, rfl⟩
    rw [hz] at V ⊢
    clear hl h hz
    have T0 := (Blk.nil w).lay rfl #[.int .i64 t] 3
    go_enter Try.func10, Try.ntmps10
    go_wp2_with (go_at_call 38; refine (V.out _ _).mono ?_; rintro e w1 ⟨rfl, hb⟩; have K1 := T0.kept hb; clear hb)
    go_ret2
    exact ⟨rfl, K1.below⟩
  · have h1 : parseB l = true := by cases hp : parseB l <;> simp [hp] at h ⊢
    have h2 : 0 ≤ t ∧ t ≤ 31 := by rw [h1] at h; simpa using h
    obtain ⟨g, ht⟩ := parseB_good h1
    obtain ⟨n, rfl⟩ : ∃ n : Nat, t = n := ⟨t.toNat, by omega⟩
    have e : cutR l n = wholeR (negOf l) (scU (uOf l) (sOf l) n) n := by
      unfold cutR; rw [if_pos h1, if_pos h2, Int.toNat_natCast]
    have c := cut_yes _ _ _ n w g (by omega)
    rw [ht] at c
    rw [e]
    exact c
end Go.Proofs.Ytkcogoibaodbeaa
namespace Go.Proofs.Ytkcogoibaodbeaa
open Go.RowKit
attribute [local irreducible] ncells wcells txt
/-- What Fits answers. -/
def fitsR (l : List UInt8) (d s : Int) : Bool := parseB l && fmB d s && decide ((sOf l : Int) = s) && decide ((dl (uOf l) : Int) ≤ d)
set_option maxRecDepth 100000 in
set_option maxHeartbeats 2000000 in
theorem fits_any (na : Bool) (u s : Nat) (d t : Int) (w : World) (ha : Good na u s) :
    Calls Try.prog 14 #[.string ⟨(txt na u s).toArray⟩, .int .i64 d, .int .i64 t] w fun e w' => e = .returned (.bool (fmB d t && decide ((s : Int) = t) && decide ((dl u : Int) ≤ d))) ∧ Below w.heap.size w w' := by
  by_cases hy : 1 ≤ d ∧ d ≤ 31 ∧ (s : Int) ≤ d ∧ (s : Int) = t ∧ (dl u : Int) ≤ d
  · obtain ⟨h1, h2, h3, rfl, h5⟩ := hy
    obtain ⟨n, rfl⟩ : ∃ n : Nat, d = n := ⟨d.toNat, by omega⟩
    have e : (fmB n s && decide ((s : Int) = s) && decide ((dl u : Int) ≤ n)) = true := by simp [fmB]; omega
    rw [e]
    exact fits_yes na u s n w ha (by omega) (by omega) (by omega) (by omega)
  · have GA := Lib.hid ha
    have FM : ∀ w, Calls Try.prog 51 #[.int .i64 d, .int .i64 t] w fun e w' => e = .returned (.bool (fmB d t)) ∧ Below w.heap.size w w' := fun w => formed_any d t w
    have e : (fmB d t && decide ((s : Int) = t) && decide ((dl u : Int) ≤ d)) = false := by
      rw [Bool.eq_false_iff]
      intro h
      simp [fmB] at h
      exact hy (by omega)
    rw [e]
    cases hf : fmB d t with
    | false =>
      rw [hf] at FM
      have FM' := Lib.hid FM
      clear FM ha hy e
      go_enter Try.func14, Try.ntmps14
      go_wp2_with (first
        | (go_at_call 50; refine (parse_yes _ _ _ _ GA.out).mono ?_; rintro e w1 ⟨rfl, hb⟩; have K1 := (Blk.nil w).kept hb; clear hb; have X1 := (Blk.nil w1).lay rfl (ncells na u s) 46)
        | (go_at_call 51; refine (FM'.out _).mono ?_; rintro e w2 ⟨rfl, hb⟩; have K2 := (K1.more _).kept hb; have X2 := X1.kept hb; clear hb; have r0 : rowOf _ (w1.heap.size) = _ := X2.row 0 _ rfl; have c9 : World.cell? _ ⟨w1.heap.size, 129, none⟩ = some (.int .i64 s) := X2.scale 0 rfl))
      go_ret
      exact ⟨rfl, K2.below⟩
    | true =>
      rw [hf] at FM e
      have FM' := Lib.hid FM
      clear FM ha
      by_cases hs : (s : Int) = t
      · subst hs
        have h5 : ¬ (dl u : Int) ≤ d := by
          intro h; simp [h] at e
        have h0 : (u == 0) = false := by
          rw [beq_eq_false_iff_ne]
          rintro rfl
          rw [dl_lt10 (by decide)] at h5
          unfold fmB at hf
          rw [decide_eq_true_eq] at hf
          omega
        clear hy e hf
        go_enter Try.func14, Try.ntmps14
        go_wp2_with (first
          | (go_at_call 50; refine (parse_yes _ _ _ _ GA.out).mono ?_; rintro e w1 ⟨rfl, hb⟩; have K1 := (Blk.nil w).kept hb; clear hb; have X1 := (Blk.nil w1).lay rfl (ncells na u s) 46)
          | (go_at_call 51; refine (FM'.out _).mono ?_; rintro e w2 ⟨rfl, hb⟩; have K2 := (K1.more _).kept hb; have X2 := X1.kept hb; clear hb; have r0 : rowOf _ (w1.heap.size) = _ := X2.row 0 _ rfl; have c9 : World.cell? _ ⟨w1.heap.size, 129, none⟩ = some (.int .i64 s) := X2.scale 0 rfl)
          | (go_at_call 52; refine (size_any _ _ GA.out.big).mono ?_; rintro e w3 ⟨rfl, hb⟩; have K3 := K2.kept hb; have X3 := X2.kept hb; clear hb; have r3 : rowOf _ (w1.heap.size) = _ := X3.row 0 _ rfl)
          | (go_at_call 53; refine (zero_any _ _ GA.out.big).mono ?_; rintro e w4 ⟨rfl, hb⟩; rw [h0]; have K4 := K3.kept hb; clear hb))
        have hd : decide ((dl u : Int) ≤ d) = false := decide_eq_false (by omega)
        go_ret
        exact ⟨by rw [hd]; rfl, K4.below⟩
      · have hs' : ((s : Int) == t) = false := by simpa using hs
        clear hy e hf
        go_enter Try.func14, Try.ntmps14
        go_wp2_with (first
          | (go_at_call 50; refine (parse_yes _ _ _ _ GA.out).mono ?_; rintro e w1 ⟨rfl, hb⟩; have K1 := (Blk.nil w).kept hb; clear hb; have X1 := (Blk.nil w1).lay rfl (ncells na u s) 46)
          | (go_at_call 51; refine (FM'.out _).mono ?_; rintro e w2 ⟨rfl, hb⟩; have K2 := (K1.more _).kept hb; have X2 := X1.kept hb; clear hb; have r0 : rowOf _ (w1.heap.size) = _ := X2.row 0 _ rfl; have c9 : World.cell? _ ⟨w1.heap.size, 129, none⟩ = some (.int .i64 s) := X2.scale 0 rfl))
        go_ret
        exact ⟨rfl, K2.below⟩
theorem fits_all (l : List UInt8) (d s : Int) (w : World) (hl : l.length ≤ 500) :
    Calls Try.prog 14 #[.string ⟨l.toArray⟩, .int .i64 d, .int .i64 s] w fun e w' => e = .returned (.bool (fitsR l d s)) ∧ Below w.heap.size w w' := by
  cases h : parseB l with
  | false =>
    rw [show fitsR l d s = false by unfold fitsR; rw [h]; rfl]
    exact fits_no l d s w hl h
  | true =>
    obtain ⟨g, ht⟩ := parseB_good h
    have := fits_any _ _ _ d s w g
    rw [ht] at this
    rw [show fitsR l d s = (fmB d s && decide ((sOf l : Int) = s) && decide ((dl (uOf l) : Int) ≤ d)) by unfold fitsR; rw [h, Bool.true_and]]
    exact this
end Go.Proofs.Ytkcogoibaodbeaa
namespace Go.Proofs.Ytkcogoibaodbeaa
open Go.RowKit
attribute [local irreducible] ncells wcells txt
/-- What To answers. -/
def toR (l : List UInt8) (d s : Int) : List UInt8 × Int := if parseB l = true then (if fmB d s = true then (if (dl (scU (uOf l) (sOf l) s.toNat) : Int) ≤ d then (txt (negOf l) (scU (uOf l) (sOf l) s.toNat) s.toNat, 0) else ([], 4)) else ([], 7)) else ([], 2)
theorem fmB_of {d s : Int} (h : fmB d s = true) : 1 ≤ d ∧ d ≤ 31 ∧ 0 ≤ s ∧ s ≤ d := by unfold fmB at h; simpa using h
set_option maxRecDepth 100000 in
set_option maxHeartbeats 2000000 in
theorem to_all (l : List UInt8) (d s : Int) (w : World) (hl : l.length ≤ 500) :
    Calls Try.prog 16 #[.string ⟨l.toArray⟩, .int .i64 d, .int .i64 s] w fun e w' => e = .returned (.tuple #[.string ⟨(toR l d s).1.toArray⟩, .int .i64 (toR l d s).2]) ∧ Below w.heap.size w w' := by
  have V := fun w => valid_all l w hl
  have FM := fun w => formed_any d s w
  cases hp : parseB l with
  | false =>
    rw [show toR l d s = ([], 2) from if_neg (by rw [hp]; decide)]
    rw [hp] at V
    have V' := Lib.hid V
    clear V FM hp hl
    go_enter Try.func16, Try.ntmps16
    go_wp2_with (go_at_call 56; refine (V'.out _).mono ?_; rintro e w1 ⟨rfl, hb⟩; have K1 := (Blk.nil w).kept hb; clear hb)
    go_ret2
    exact ⟨rfl, K1.below⟩
  | true =>
    rw [hp] at V
    cases hf : fmB d s with
    | false =>
      rw [show toR l d s = ([], 7) by unfold toR; rw [if_pos hp, if_neg (by rw [hf]; decide)]]
      rw [hf] at FM
      have V' := Lib.hid V
      have FM' := Lib.hid FM
      clear V FM hp hl hf
      go_enter Try.func16, Try.ntmps16
      go_wp2_with (first
        | (go_at_call 56; refine (V'.out _).mono ?_; rintro e w1 ⟨rfl, hb⟩; have K1 := (Blk.nil w).kept hb; clear hb)
        | (go_at_call 51; refine (FM'.out _).mono ?_; rintro e w2 ⟨rfl, hb⟩; have K2 := K1.kept hb; clear hb))
      go_ret2
      exact ⟨rfl, K2.below⟩
    | true =>
      obtain ⟨d1, d2, d3, d4⟩ := fmB_of hf
      obtain ⟨n, rfl⟩ : ∃ n : Nat, s = n := ⟨s.toNat, by omega⟩
      obtain ⟨g, _⟩ := parseB_good hp
      have CT := fun w => cut_all l n w hl
      have ec : cutR l n = wholeR (negOf l) (scU (uOf l) (sOf l) n) n := by unfold cutR; rw [if_pos hp, if_pos ⟨d3, by omega⟩, Int.toNat_natCast]
      have et : toR l d n = if (dl (scU (uOf l) (sOf l) n) : Int) ≤ d then (txt (negOf l) (scU (uOf l) (sOf l) n) n, 0) else ([], 4) := by unfold toR; rw [if_pos hp, if_pos hf, Int.toNat_natCast]
      rw [ec] at CT
      rw [et]
      rw [hf] at FM
      generalize scU (uOf l) (sOf l) n = X at *
      generalize negOf l = N at *
      by_cases hX : dl X ≤ 31
      · rw [show wholeR N X n = (txt N X n, 0) from if_pos hX] at CT
        have FI : ∀ w, _ := fun w => fits_any (sgn N X) X n d n w (good_sgn N hX (by omega))
        rw [txt_sgn, hf, decide_eq_true rfl, Bool.true_and] at FI
        by_cases hd : (dl X : Int) ≤ d
        · rw [if_pos hd]
          rw [decide_eq_true hd] at FI
          have V' := Lib.hid V
          have FM' := Lib.hid FM
          have CT' := Lib.hid CT
          have FI' := Lib.hid FI
          clear V FM CT FI hp hl hf ec et g
          go_enter Try.func16, Try.ntmps16
          go_wp2_with (first
            | (go_at_call 56; refine (V'.out _).mono ?_; rintro e w1 ⟨rfl, hb⟩; have K1 := (Blk.nil w).kept hb; clear hb)
            | (go_at_call 51; refine (FM'.out _).mono ?_; rintro e w2 ⟨rfl, hb⟩; have K2 := K1.kept hb; clear hb)
            | (go_at_call 10; refine (CT'.out _).mono ?_; rintro e w3 ⟨rfl, hb⟩; have K3 := K2.kept hb; clear hb)
            | (go_at_call 14; refine (FI'.out _).mono ?_; rintro e w4 ⟨rfl, hb⟩; have K4 := K3.kept hb; clear hb))
          go_ret2
          exact ⟨rfl, K4.below⟩
        · rw [if_neg hd]
          rw [decide_eq_false hd, Bool.and_false] at FI
          have V' := Lib.hid V
          have FM' := Lib.hid FM
          have CT' := Lib.hid CT
          have FI' := Lib.hid FI
          clear V FM CT FI hp hl hf ec et g
          go_enter Try.func16, Try.ntmps16
          go_wp2_with (first
            | (go_at_call 56; refine (V'.out _).mono ?_; rintro e w1 ⟨rfl, hb⟩; have K1 := (Blk.nil w).kept hb; clear hb)
            | (go_at_call 51; refine (FM'.out _).mono ?_; rintro e w2 ⟨rfl, hb⟩; have K2 := K1.kept hb; clear hb)
            | (go_at_call 10; refine (CT'.out _).mono ?_; rintro e w3 ⟨rfl, hb⟩; have K3 := K2.kept hb; clear hb)
            | (go_at_call 14; refine (FI'.out _).mono ?_; rintro e w4 ⟨rfl, hb⟩; have K4 := K3.kept hb; clear hb))
          go_ret2
          exact ⟨rfl, K4.below⟩
      · rw [show wholeR N X n = ([], 4) from if_neg hX] at CT
        rw [if_neg (by omega)]
        have V' := Lib.hid V
        have FM' := Lib.hid FM
        have CT' := Lib.hid CT
        clear V FM CT hp hl hf ec et g
        go_enter Try.func16, Try.ntmps16
        go_wp2_with (first
          | (go_at_call 56; refine (V'.out _).mono ?_; rintro e w1 ⟨rfl, hb⟩; have K1 := (Blk.nil w).kept hb; clear hb)
          | (go_at_call 51; refine (FM'.out _).mono ?_; rintro e w2 ⟨rfl, hb⟩; have K2 := K1.kept hb; clear hb)
          | (go_at_call 10; refine (CT'.out _).mono ?_; rintro e w3 ⟨rfl, hb⟩; have K3 := K2.kept hb; clear hb))
        go_ret2
        exact ⟨rfl, K3.below⟩
/-- What Length answers. -/
def lenR (d : Int) : Int × Int := if fmB d 0 = true then (d / 2 + 1, 0) else (0, 7)
set_option maxRecDepth 100000 in
set_option maxHeartbeats 2000000 in
theorem length_all (d : Int) (w : World) :
    Calls Try.prog 20 #[.int .i64 d] w fun e w' => e = .returned (.tuple #[.int .i64 (lenR d).1, .int .i64 (lenR d).2]) ∧ Below w.heap.size w w' := by
  have FM := fun w => formed_any d 0 w
  unfold lenR
  cases hf : fmB d 0 with
  | false =>
    rw [hf] at FM
    rw [if_neg (by decide)]
    have FM' := Lib.hid FM
    clear FM hf
    go_enter Try.func20, Try.ntmps20
    go_wp2_with (go_at_call 51; refine (FM'.out _).mono ?_; rintro e w2 ⟨rfl, hb⟩; have K2 := (Blk.nil w).kept hb; clear hb)
    go_ret2
    exact ⟨rfl, K2.below⟩
  | true =>
    obtain ⟨d1, d2, d3, d4⟩ := fmB_of hf
    rw [hf] at FM
    rw [if_pos rfl]
    have FM' := Lib.hid FM
    clear FM hf
    have w1 : IntKind.i64.wrap (d / 2) = d / 2 := IntWalk.i64_in _ (by omega)
    have w2 : IntKind.i64.wrap (d / 2 + 1) = d / 2 + 1 := IntWalk.i64_in _ (by omega)
    have e1 : d.tdiv 2 = d / 2 := Int.tdiv_eq_ediv_of_nonneg (by omega)
    go_enter Try.func20, Try.ntmps20
    go_wp2_with (go_at_call 51; refine (FM'.out _).mono ?_; rintro e w2 ⟨rfl, hb⟩; have K2 := (Blk.nil w).kept hb; clear hb)
    go_ret2
    exact ⟨rfl, K2.below⟩
end Go.Proofs.Ytkcogoibaodbeaa
namespace Go.Proofs.Ytkcogoibaodbeaa
open Go.RowKit
/-- The array's literal in the walk. -/
def bdW (ps : Array (Nat × Value)) : Sem Value := Instr.build 44 ps
@[go_sem ↓] theorem bdW_eq (ps : Array (Nat × Value)) : Instr.build 44 ps = bdW ps := rfl
@[go_sem] theorem run_bdW (w : World) : (bdW #[(0, .int .u8 1)]).run Try.prog w = .ok (.agg (wcells 1)) w := by
  refine run_build (P := Try.prog) w _ _ _ ?_
  kernel_rfl
attribute [local irreducible] ncells wcells txt
/-- Rounded. -/
def roundU (u s t : Nat) : Nat := if t < s ∧ 5 ≤ dg u (s - t - 1) then scU u s t + 1 else scU u s t
set_option maxRecDepth 100000 in
set_option maxHeartbeats 4000000 in
theorem roundc_up (na : Bool) (a sa t : Nat) (bk : Nat) (w : World) (ha : a < Big) (hs : sa ≤ 31) (hb0 : bk < w.heap.size) (hc : w.cell? ⟨bk, 0, none⟩ = some (.int .i64 t)) (h1 : t < sa) (h2 : 5 ≤ dg a (sa - t - 1)) :
    Calls Try.prog 45 #[.agg (ncells na a sa), .pointer (some ⟨bk, 0, none⟩)] w fun e w' => e = .returned (.agg (ncells na (scU a sa t + 1) t)) ∧ Below w.heap.size w w' := by
  have HA := Lib.hid ha
  clear ha
  obtain ⟨k, hk⟩ : ∃ k, sa - t - 1 = k := ⟨_, rfl⟩
  rw [hk] at h2
  have hk1 : (sa : Int) - (t : Int) - 1 = (k : Int) := by omega
  have wk1 : IntKind.i64.wrap ((sa : Int) - (t : Int)) = (sa : Int) - (t : Int) := IntWalk.i64_in _ (by omega)
  have wk2 : IntKind.i64.wrap (k : Int) = (k : Int) := IntWalk.i64_in _ (by omega)
  have hk2 : (k : Int) < 128 := by omega
  have hk3 : k < 128 := by omega
  have t1 : (t : Int) < (sa : Int) := by omega
  have t2 : (5 : Int) ≤ (dg a k : Int) := by omega
  have T0 := ((Blk.nil w).lay rfl (ncells na a sa) 46).lay (by simp) (ncells false 0 0) 46
  have c1 := (T0.below.cell (p := ⟨bk, 0, none⟩) hb0).trans hc
  have P1 := fun a w => plus_any a 1 w
  have P1' := Lib.hid P1
  clear P1
  go_enter Try.func45, Try.ntmps45
  go_wp2_with (first
    | (go_at_call 40; refine (scaled_any _ _ _ t _ HA.out (by omega) (by omega)).mono ?_; rintro e w1 ⟨rfl, hb⟩; have T1 := T0.kept hb; have X1 := (Blk.nil w1).lay rfl (ncells na (scU a sa t) t) 46; have T1' := T1.more (.cells (ncells na (scU a sa t) t) 46); clear hb; have l1 := T1.le; have c2 : World.cell? _ ⟨bk, 0, none⟩ = some (.int .i64 t) := (T1'.below.cell (p := ⟨bk, 0, none⟩) hb0).trans hc; have c3 : World.cell? _ ⟨w.heap.size, 129, none⟩ = some (.int .i64 sa) := T1'.scale 0 rfl; have c4 : World.cell? _ ⟨w.heap.size, 1 + k, none⟩ = some (.int .u8 (dg a k)) := (T1'.cell 0 rfl (1 + k)).trans (by rw [ncells_get _ _ _ _ (by omega), if_neg (by omega), if_neg (by omega), show 1 + k - 1 = k by omega]))
    | (go_at_call 46; refine (P1'.out _ _).mono ?_; rintro e w2 ⟨rfl, hb⟩; have T2 := T1'.kept hb; have X2 := X1.kept hb; clear hb; have r1 : rowOf _ (w.heap.size + 1) = _ := T2.row 1 _ rfl; have f1 : freeOf _ (w.heap.size + 1) = _ := T2.fr 1 rfl; have r2 : rowOf _ (w1.heap.size) = _ := X2.row 0 _ rfl; have f2 : freeOf _ (w1.heap.size) = _ := X2.fr 0 rfl; simp only [List.length_append, List.length_cons, List.length_nil] at l1; have n1 : w1.heap.size ≠ w.heap.size + 1 := (by omega); have n2 := Ne.symm n1))
  refine ret_row (b := w.heap.size + 1) (C := ncells na (scU a sa t + 1) t) rfl rtNum rfl (by go_simp) (by simp) ⟨rfl, ?_⟩
  exact (T2.below.putRow (by omega) _ _).putRow (by omega) _ _
set_option maxRecDepth 100000 in
set_option maxHeartbeats 4000000 in
theorem roundc_low (na : Bool) (a sa t : Nat) (bk : Nat) (w : World) (ha : a < Big) (hs : sa ≤ 31) (hb0 : bk < w.heap.size) (hc : w.cell? ⟨bk, 0, none⟩ = some (.int .i64 t)) (h1 : t < sa) (h2 : ¬ 5 ≤ dg a (sa - t - 1)) :
    Calls Try.prog 45 #[.agg (ncells na a sa), .pointer (some ⟨bk, 0, none⟩)] w fun e w' => e = .returned (.agg (ncells na (scU a sa t) t)) ∧ Below w.heap.size w w' := by
  have HA := Lib.hid ha
  clear ha
  obtain ⟨k, hk⟩ : ∃ k, sa - t - 1 = k := ⟨_, rfl⟩
  rw [hk] at h2
  have hk1 : (sa : Int) - (t : Int) - 1 = (k : Int) := by omega
  have wk1 : IntKind.i64.wrap ((sa : Int) - (t : Int)) = (sa : Int) - (t : Int) := IntWalk.i64_in _ (by omega)
  have wk2 : IntKind.i64.wrap (k : Int) = (k : Int) := IntWalk.i64_in _ (by omega)
  have hk2 : (k : Int) < 128 := by omega
  have hk3 : k < 128 := by omega
  have t1 : (t : Int) < (sa : Int) := by omega
  have t2 : ¬ (5 : Int) ≤ (dg a k : Int) := by omega
  have T0 := ((Blk.nil w).lay rfl (ncells na a sa) 46).lay (by simp) (ncells false 0 0) 46
  have c1 := (T0.below.cell (p := ⟨bk, 0, none⟩) hb0).trans hc
  go_enter Try.func45, Try.ntmps45
  go_wp2_with (go_at_call 40; refine (scaled_any _ _ _ t _ HA.out (by omega) (by omega)).mono ?_; rintro e w1 ⟨rfl, hb⟩; have T1 := T0.kept hb; have X1 := (Blk.nil w1).lay rfl (ncells na (scU a sa t) t) 46; have T1' := T1.more (.cells (ncells na (scU a sa t) t) 46); clear hb; have l1 := T1.le; have c2 : World.cell? _ ⟨bk, 0, none⟩ = some (.int .i64 t) := (T1'.below.cell (p := ⟨bk, 0, none⟩) hb0).trans hc; have c3 : World.cell? _ ⟨w.heap.size, 129, none⟩ = some (.int .i64 sa) := T1'.scale 0 rfl; have c4 : World.cell? _ ⟨w.heap.size, 1 + k, none⟩ = some (.int .u8 (dg a k)) := (T1'.cell 0 rfl (1 + k)).trans (by rw [ncells_get _ _ _ _ (by omega), if_neg (by omega), if_neg (by omega), show 1 + k - 1 = k by omega]); have r1 : rowOf _ (w.heap.size + 1) = _ := T1.row 1 _ rfl; have f1 : freeOf _ (w.heap.size + 1) = _ := T1.fr 1 rfl; simp only [List.length_append, List.length_cons, List.length_nil] at l1; have n0 : w.heap.size + 1 < w1.heap.size := (by omega); have n1 : w1.heap.size ≠ w.heap.size + 1 := (by omega); have n2 := Ne.symm n1)
  refine ret_row (b := w.heap.size + 1) (C := ncells na (scU a sa t) t) rfl rtNum rfl (by go_simp) (by simp) ⟨rfl, ?_⟩
  first
    | exact (T1.below.putRow (by omega) _ _).alloc (by simp only [size_putRow]; omega) _
    | exact (T1'.below.putRow (by omega) _ _)
set_option maxRecDepth 100000 in
set_option maxHeartbeats 4000000 in
theorem roundc_same (na : Bool) (a sa t : Nat) (bk : Nat) (w : World) (ha : a < Big) (hs : sa ≤ 31) (ht : t ≤ 31) (hb0 : bk < w.heap.size) (hc : w.cell? ⟨bk, 0, none⟩ = some (.int .i64 t)) (h1 : ¬ t < sa) :
    Calls Try.prog 45 #[.agg (ncells na a sa), .pointer (some ⟨bk, 0, none⟩)] w fun e w' => e = .returned (.agg (ncells na (scU a sa t) t)) ∧ Below w.heap.size w w' := by
  have HA := Lib.hid ha
  clear ha
  have t1 : ¬ (t : Int) < (sa : Int) := by omega
  have T0 := ((Blk.nil w).lay rfl (ncells na a sa) 46).lay (by simp) (ncells false 0 0) 46
  have c1 := (T0.below.cell (p := ⟨bk, 0, none⟩) hb0).trans hc
  go_enter Try.func45, Try.ntmps45
  go_wp2_with (go_at_call 40; refine (scaled_any _ _ _ t _ HA.out (by omega) (by omega)).mono ?_; rintro e w1 ⟨rfl, hb⟩; have T1 := T0.kept hb; have X1 := (Blk.nil w1).lay rfl (ncells na (scU a sa t) t) 46; have T1' := T1.more (.cells (ncells na (scU a sa t) t) 46); clear hb; have l1 := T1.le; have c2 : World.cell? _ ⟨bk, 0, none⟩ = some (.int .i64 t) := (T1'.below.cell (p := ⟨bk, 0, none⟩) hb0).trans hc; have c3 : World.cell? _ ⟨w.heap.size, 129, none⟩ = some (.int .i64 sa) := T1'.scale 0 rfl; have r1 : rowOf _ (w.heap.size + 1) = _ := T1.row 1 _ rfl; have f1 : freeOf _ (w.heap.size + 1) = _ := T1.fr 1 rfl; simp only [List.length_append, List.length_cons, List.length_nil] at l1; have n0 : w.heap.size + 1 < w1.heap.size := (by omega); have n1 : w1.heap.size ≠ w.heap.size + 1 := (by omega); have n2 := Ne.symm n1)
  refine ret_row (b := w.heap.size + 1) (C := ncells na (scU a sa t) t) rfl rtNum rfl (by go_simp) (by simp) ⟨rfl, ?_⟩
  first
    | exact (T1.below.putRow (by omega) _ _).alloc (by simp only [size_putRow]; omega) _
    | exact (T1'.below.putRow (by omega) _ _)
theorem roundc_any (na : Bool) (a sa t : Nat) (bk : Nat) (w : World) (ha : a < Big) (hs : sa ≤ 31) (ht : t ≤ 31) (hb0 : bk < w.heap.size) (hc : w.cell? ⟨bk, 0, none⟩ = some (.int .i64 t)) :
    Calls Try.prog 45 #[.agg (ncells na a sa), .pointer (some ⟨bk, 0, none⟩)] w fun e w' => e = .returned (.agg (ncells na (roundU a sa t) t)) ∧ Below w.heap.size w w' := by
  unfold roundU
  by_cases h1 : t < sa
  · by_cases h2 : 5 ≤ dg a (sa - t - 1)
    · rw [if_pos ⟨h1, h2⟩]; exact roundc_up na a sa t bk w ha hs hb0 hc h1 h2
    · rw [if_neg (fun e => h2 e.2)]; exact roundc_low na a sa t bk w ha hs hb0 hc h1 h2
  · rw [if_neg (fun e => h1 e.1)]; exact roundc_same na a sa t bk w ha hs ht hb0 hc h1
theorem round_lt {u s t : Nat} (h : dl u ≤ 31) (ht : t ≤ 31) : roundU u s t < 10 ^ 63 := by
  have := sc_lt (s := s) h ht
  have e : (10 : Nat) ^ 63 = 10 ^ 62 * 10 := by rw [← Nat.pow_succ]
  unfold roundU
  split <;> omega
/-- What Round answers. -/
def roundR (l : List UInt8) (t : Int) : List UInt8 × Int := if parseB l = true then (if 0 ≤ t ∧ t ≤ 31 then wholeR (negOf l) (roundU (uOf l) (sOf l) t.toNat) t.toNat else ([], 7)) else ([], 2)
theorem roundR_no {l : List UInt8} {t : Int} (h : parseB l = false ∨ ¬ (0 ≤ t ∧ t ≤ 31)) : roundR l t = ([], if parseB l = true then 7 else 2) := by
  unfold roundR
  cases hp : parseB l with
  | false => simp
  | true =>
    rw [hp] at h
    have h' : ¬ (0 ≤ t ∧ t ≤ 31) := by simpa using h
    rw [if_pos rfl, if_neg h']; rfl
set_option maxRecDepth 100000 in
set_option maxHeartbeats 1000000 in
theorem one_round (na : Bool) (a sa t : Nat) (bk : Nat) (w : World) (ha : Good na a sa) (ht : t ≤ 31) (hb0 : bk < w.heap.size) (hc : w.cell? ⟨bk, 0, none⟩ = some (.int .i64 t)) :
    Calls Try.prog 74 #[.string ⟨(txt na a sa).toArray⟩, .func (.func 45) #[] #[.pointer (some ⟨bk, 0, none⟩)]] w fun e w' => e = .returned (.tuple #[.string ⟨(wholeR na (roundU a sa t) t).1.toArray⟩, .int .i64 (wholeR na (roundU a sa t) t).2]) ∧ Below w.heap.size w w' := by
  have GA := Lib.hid ha
  have hs := ha.s31
  have HW := Lib.hid (show roundU a sa t < Big from Nat.lt_of_lt_of_le (round_lt ha.u31 ht) (ten_big (by decide)))
  clear ha
  go_enter Try.func74, Try.ntmps74
  go_wp2_with (first
    | (go_at_call 50; refine (parse_yes _ _ _ _ GA.out).mono ?_; rintro e w1 ⟨rfl, hb⟩; have K1 := (Blk.nil w).kept hb; have cc : w1.cell? ⟨bk, 0, none⟩ = some (.int .i64 t) := (hb.cell hb0).trans hc; clear hb; have X1 := (Blk.nil w1).lay rfl (ncells na a sa) 46; have lb : bk < w1.heap.size := Nat.lt_of_lt_of_le hb0 K1.size; have la : bk < (w1.alloc (.cells (ncells na a sa) 46)).heap.size := (by simp; omega); have ca : (w1.alloc (.cells (ncells na a sa) 46)).cell? ⟨bk, 0, none⟩ = some (.int .i64 t) := (((Below.refl w1.heap.size w1).alloc (Nat.le_refl _) _).cell (p := ⟨bk, 0, none⟩) lb).trans cc)
    | (go_at_call 45; refine (roundc_any na a sa t bk _ GA.out.big hs ht la ca).mono ?_; rintro e w2 ⟨rfl, hb⟩; have K2 := (K1.more _).kept hb; clear hb)
    | (go_at_call 72; refine (whole_any _ _ _ _ HW.out (by omega)).mono ?_; rintro e w3 ⟨rfl, hb⟩; have K3 := K2.kept hb; clear hb))
  go_ret2
  exact ⟨rfl, K3.below⟩
set_option maxRecDepth 100000 in
set_option maxHeartbeats 1000000 in
theorem round_fn (na : Bool) (a sa t : Nat) (bk : Nat) (w : World) (ha : Good na a sa) (ht : t ≤ 31) (hb0 : bk < w.heap.size) (hc : w.cell? ⟨bk, 0, none⟩ = some (.int .i64 t)) :
    Calls Try.prog 38 #[.string ⟨(txt na a sa).toArray⟩, .int .i64 t, .func (.func 45) #[] #[.pointer (some ⟨bk, 0, none⟩)]] w fun e w' => e = .returned (.tuple #[.string ⟨(wholeR na (roundU a sa t) t).1.toArray⟩, .int .i64 (wholeR na (roundU a sa t) t).2]) ∧ Below w.heap.size w w' := by
  have GA := Lib.hid ha
  clear ha
  have t2 : ¬ (t : Int) < 0 := by omega
  have t3 : ¬ (31 : Int) < (t : Int) := by omega
  go_enter Try.func38, Try.ntmps38
  go_wp2_with (first
    | (go_at_call 56; refine (valid_yes _ _ _ _ GA.out).mono ?_; rintro e w1 ⟨rfl, hb⟩; have K1 := (Blk.nil w).kept hb; have cc : w1.cell? ⟨bk, 0, none⟩ = some (.int .i64 t) := (hb.cell hb0).trans hc; clear hb; have lb : bk < w1.heap.size := Nat.lt_of_lt_of_le hb0 K1.size)
    | (go_at_call 74; refine (one_round _ _ _ t bk _ GA.out ht lb cc).mono ?_; rintro e w2 ⟨rfl, hb⟩; have K2 := K1.kept hb; clear hb))
  go_ret2
  exact ⟨rfl, K2.below⟩
set_option maxRecDepth 100000 in
set_option maxHeartbeats 1000000 in
theorem round_yes (na : Bool) (a sa t : Nat) (w : World) (ha : Good na a sa) (ht : t ≤ 31) :
    Calls Try.prog 12 #[.string ⟨(txt na a sa).toArray⟩, .int .i64 t] w fun e w' => e = .returned (.tuple #[.string ⟨(wholeR na (roundU a sa t) t).1.toArray⟩, .int .i64 (wholeR na (roundU a sa t) t).2]) ∧ Below w.heap.size w w' := by
  have GA := Lib.hid ha
  clear ha
  have T0 := (Blk.nil w).lay rfl #[.int .i64 t] 3
  have la : w.heap.size < (w.alloc (.cells #[.int .i64 t] 3)).heap.size := by simp
  have ca : (w.alloc (.cells #[.int .i64 t] 3)).cell? ⟨w.heap.size, 0, none⟩ = some (.int .i64 t) := T0.cell 0 rfl 0
  go_enter Try.func12, Try.ntmps12
  go_wp2_with (go_at_call 38; refine (round_fn _ _ _ t _ _ GA.out ht la ca).mono ?_; rintro e w1 ⟨rfl, hb⟩; have K1 := T0.kept hb; clear hb)
  go_ret2
  exact ⟨rfl, K1.below⟩
set_option maxRecDepth 100000 in
set_option maxHeartbeats 1000000 in
theorem round_all (l : List UInt8) (t : Int) (w : World) (hl : l.length ≤ 500) :
    Calls Try.prog 12 #[.string ⟨l.toArray⟩, .int .i64 t] w fun e w' => e = .returned (.tuple #[.string ⟨(roundR l t).1.toArray⟩, .int .i64 (roundR l t).2]) ∧ Below w.heap.size w w' := by
  by_cases h : parseB l = false ∨ ¬ (0 ≤ t ∧ t ≤ 31)
  · rw [roundR_no h]
    have V := Lib.hid (fun F w => cutfn_no l t F w hl h)
    obtain ⟨z, hz⟩ : ∃ z : Int, (if parseB l = true then 7 else 2) = z := ⟨_, rfl⟩
    rw [hz] at V ⊢
    clear hl h hz
    have T0 := (Blk.nil w).lay rfl #[.int .i64 t] 3
    go_enter Try.func12, Try.ntmps12
    go_wp2_with (go_at_call 38; refine (V.out _ _).mono ?_; rintro e w1 ⟨rfl, hb⟩; have K1 := T0.kept hb; clear hb)
    go_ret2
    exact ⟨rfl, K1.below⟩
  · have h1 : parseB l = true := by cases hp : parseB l <;> simp [hp] at h ⊢
    have h2 : 0 ≤ t ∧ t ≤ 31 := by rw [h1] at h; simpa using h
    obtain ⟨g, ht⟩ := parseB_good h1
    obtain ⟨n, rfl⟩ : ∃ n : Nat, t = n := ⟨t.toNat, by omega⟩
    have e : roundR l n = wholeR (negOf l) (roundU (uOf l) (sOf l) n) n := by
      unfold roundR; rw [if_pos h1, if_pos h2, Int.toNat_natCast]
    have c := round_yes _ _ _ n w g (by omega)
    rw [ht] at c
    rw [e]
    exact c
end Go.Proofs.Ytkcogoibaodbeaa
