/- Package fixed for all texts and numbers: formed, Cut. Package fixed for all texts and numbers: Fits, To, Length. Package fixed for all texts and numbers: To, Length, Round. Package fixed for all texts and numbers: Round. -/
import Derived.Test.YtkcogoibaodbeaaGreatDoorNo
import Derived.Test.YtkcogoibaodbeaaGreatDoorRefScan
set_option linter.unusedVariables false
set_option linter.unusedSimpArgs false
namespace Go.Proofs.YtkcogoibaodbeaaGreatDoor
open Go.RowKit
attribute [local irreducible] ncells wcells txt
/-- Are digits and a scale right? -/
def fmB (d s : Int) : Bool := decide (1 ≤ d ∧ d ≤ 31 ∧ 0 ≤ s ∧ s ≤ d)
set_option maxRecDepth 100000 in
set_option maxHeartbeats 1000000 in
theorem formed_any (d s : Int) (w : World) :
    Calls Tryz.prog 79 #[.int .i64 d, .int .i64 s] w fun e w' => e = .returned (.bool (fmB d s)) ∧ Below w.heap.size w w' := by
  by_cases h : 1 ≤ d ∧ d ≤ 31 ∧ 0 ≤ s ∧ s ≤ d
  · rw [show fmB d s = true from decide_eq_true h]
    exact formed_yes d s w h.1 h.2.1 h.2.2.1 h.2.2.2
  · rw [show fmB d s = false from decide_eq_false h]
    rcases (show ¬ 1 ≤ d ∨ (1 ≤ d ∧ ¬ d ≤ 31) ∨ (1 ≤ d ∧ d ≤ 31 ∧ ¬ 0 ≤ s) ∨ (1 ≤ d ∧ d ≤ 31 ∧ 0 ≤ s ∧ ¬ s ≤ d) by omega) with h1 | ⟨h1, h2⟩ | ⟨h1, h2, h3⟩ | ⟨h1, h2, h3, h4⟩
    all_goals
      clear h
      go_enter Tryz.func79, Tryz.ntmps79
      go_wp2
      go_ret
      exact ⟨rfl, Below.refl _ _⟩
/-- A text's scale. -/
def sOf (l : List UInt8) : Nat := (partOf l).length
theorem valid_all (l : List UInt8) (w : World) (hl : l.length ≤ 500) :
    Calls Tryz.prog 8 #[.string ⟨l.toArray⟩] w fun e w' => e = .returned (.bool (parseB l)) ∧ Below w.heap.size w w' := by
  cases h : parseB l with
  | false => exact valid_no l w hl h
  | true =>
    obtain ⟨g, ht⟩ := parseB_good h
    have := valid_yes _ _ _ w g
    rw [ht] at this
    exact this
/-- What Cut answers. -/
def cutR (l : List UInt8) (t : Int) : List UInt8 × Int := if parseB l = true then (if 0 ≤ t ∧ t ≤ 31 then wholeR (negOf l) (scU (uOf l) (sOf l) t.toNat) t.toNat else ([], 7)) else ([], 2)
set_option maxRecDepth 100000 in
set_option maxHeartbeats 1000000 in
theorem cutfn_no (l : List UInt8) (t : Int) (F : Value) (w : World) (hl : l.length ≤ 500) (h : parseB l = false ∨ ¬ (0 ≤ t ∧ t ≤ 31)) :
    Calls Tryz.prog 89 #[.string ⟨l.toArray⟩, .int .i64 t, F] w fun e w' => e = .returned (.tuple #[.string ⟨#[]⟩, .int .i64 (if parseB l = true then 7 else 2)]) ∧ Below w.heap.size w w' := by
  have V := Lib.hid (fun w => valid_all l w hl)
  clear hl
  cases hp : parseB l with
  | false =>
    rw [hp] at V
    clear h
    go_enter Tryz.func89, Tryz.ntmps89
    go_wp2_with (go_at_call 8; refine (V.out _).mono ?_; rintro e w1 ⟨rfl, hb⟩; have K1 := (Blk.nil w).kept hb; clear hb)
    go_ret2
    exact ⟨rfl, K1.below⟩
  | true =>
    rw [hp] at V h
    have h' : ¬ (0 ≤ t ∧ t ≤ 31) := by simpa using h
    clear h
    rcases (show t < 0 ∨ (¬ t < 0 ∧ 31 < t) by omega) with h1 | ⟨h1, h2⟩
    all_goals
      clear h'
      go_enter Tryz.func89, Tryz.ntmps89
      go_wp2_with (go_at_call 8; refine (V.out _).mono ?_; rintro e w1 ⟨rfl, hb⟩; have K1 := (Blk.nil w).kept hb; clear hb)
      go_ret2
      exact ⟨rfl, K1.below⟩
theorem cutR_no {l : List UInt8} {t : Int} (h : parseB l = false ∨ ¬ (0 ≤ t ∧ t ≤ 31)) : cutR l t = ([], if parseB l = true then 7 else 2) := by
  unfold cutR
  cases hp : parseB l with
  | false => simp
  | true =>
    rw [hp] at h
    have h' : ¬ (0 ≤ t ∧ t ≤ 31) := by simpa using h
    rw [if_pos rfl, if_neg h']; rfl
set_option maxRecDepth 100000 in
set_option maxHeartbeats 1000000 in
theorem cut_all (l : List UInt8) (t : Int) (w : World) (hl : l.length ≤ 500) :
    Calls Tryz.prog 80 #[.string ⟨l.toArray⟩, .int .i64 t] w fun e w' => e = .returned (.tuple #[.string ⟨(cutR l t).1.toArray⟩, .int .i64 (cutR l t).2]) ∧ Below w.heap.size w w' := by
  by_cases h : parseB l = false ∨ ¬ (0 ≤ t ∧ t ≤ 31)
  · rw [cutR_no h]
    have V := Lib.hid (fun F w => cutfn_no l t F w hl h)
    obtain ⟨z, hz⟩ : ∃ z : Int, (if parseB l = true then 7 else 2) = z := ⟨_, rfl⟩
    rw [hz] at V ⊢
    clear hl h hz
    have T0 := (Blk.nil w).lay rfl #[.int .i64 t] 3
    go_enter Tryz.func80, Tryz.ntmps80
    go_wp2_with (go_at_call 89; refine (V.out _ _).mono ?_; rintro e w1 ⟨rfl, hb⟩; have K1 := T0.kept hb; clear hb)
    go_ret2
    exact ⟨rfl, K1.below⟩
  · have h1 : parseB l = true := by cases hp : parseB l <;> simp [hp] at h ⊢
    have h2 : 0 ≤ t ∧ t ≤ 31 := by rw [h1] at h; simpa using h
    obtain ⟨g, ht⟩ := parseB_good h1
    obtain ⟨n, rfl⟩ : ∃ n : Nat, t = n := ⟨t.toNat, by omega⟩
    have e : cutR l n = wholeR (negOf l) (scU (uOf l) (sOf l) n) n := by
      unfold cutR; rw [if_pos h1, if_pos h2, Int.toNat_natCast]
    have c := cut_yes _ _ _ n w g (by omega)
    rw [ht] at c
    rw [e]
    exact c
end Go.Proofs.YtkcogoibaodbeaaGreatDoor
namespace Go.Proofs.YtkcogoibaodbeaaGreatDoor
open Go.RowKit
attribute [local irreducible] ncells wcells txt
/-- What Fits answers. -/
def fitsR (l : List UInt8) (d s : Int) : Bool := parseB l && fmB d s && decide ((sOf l : Int) = s) && decide ((dl (uOf l) : Int) ≤ d)
set_option maxRecDepth 100000 in
set_option maxHeartbeats 2000000 in
theorem fits_any (na : Bool) (u s : Nat) (d t : Int) (w : World) (ha : Good na u s) :
    Calls Tryz.prog 81 #[.string ⟨(txt na u s).toArray⟩, .int .i64 d, .int .i64 t] w fun e w' => e = .returned (.bool (fmB d t && decide ((s : Int) = t) && decide ((dl u : Int) ≤ d))) ∧ Below w.heap.size w w' := by
  by_cases hy : 1 ≤ d ∧ d ≤ 31 ∧ (s : Int) ≤ d ∧ (s : Int) = t ∧ (dl u : Int) ≤ d
  · obtain ⟨h1, h2, h3, rfl, h5⟩ := hy
    obtain ⟨n, rfl⟩ : ∃ n : Nat, d = n := ⟨d.toNat, by omega⟩
    have e : (fmB n s && decide ((s : Int) = s) && decide ((dl u : Int) ≤ n)) = true := by simp [fmB]; omega
    rw [e]
    exact fits_yes na u s n w ha (by omega) (by omega) (by omega) (by omega)
  · have GA := Lib.hid ha
    have FM : ∀ w, Calls Tryz.prog 79 #[.int .i64 d, .int .i64 t] w fun e w' => e = .returned (.bool (fmB d t)) ∧ Below w.heap.size w w' := fun w => formed_any d t w
    have e : (fmB d t && decide ((s : Int) = t) && decide ((dl u : Int) ≤ d)) = false := by
      rw [Bool.eq_false_iff]
      intro h
      simp [fmB] at h
      exact hy (by omega)
    rw [e]
    cases hf : fmB d t with
    | false =>
      rw [hf] at FM
      have FM' := Lib.hid FM
      clear FM ha hy e
      go_enter Tryz.func81, Tryz.ntmps81
      go_wp2_with (first
        | (go_at_call 35; refine (parse_yes _ _ _ _ GA.out).mono ?_; rintro e w1 ⟨rfl, hb⟩; have K1 := (Blk.nil w).kept hb; clear hb; have X1 := (Blk.nil w1).lay rfl (ncells na u s) 45)
        | (go_at_call 79; refine (FM'.out _).mono ?_; rintro e w2 ⟨rfl, hb⟩; have K2 := (K1.more _).kept hb; have X2 := X1.kept hb; clear hb; have r0 : rowOf _ (w1.heap.size) = _ := X2.row 0 _ rfl; have c9 : World.cell? _ ⟨w1.heap.size, 129, none⟩ = some (.int .i64 s) := X2.scale 0 rfl))
      go_ret
      exact ⟨rfl, K2.below⟩
    | true =>
      rw [hf] at FM e
      have FM' := Lib.hid FM
      clear FM ha
      by_cases hs : (s : Int) = t
      · subst hs
        have h5 : ¬ (dl u : Int) ≤ d := by
          intro h; simp [h] at e
        have h0 : (u == 0) = false := by
          rw [beq_eq_false_iff_ne]
          rintro rfl
          rw [dl_lt10 (by decide)] at h5
          unfold fmB at hf
          rw [decide_eq_true_eq] at hf
          omega
        clear hy e hf
        go_enter Tryz.func81, Tryz.ntmps81
        go_wp2_with (first
          | (go_at_call 35; refine (parse_yes _ _ _ _ GA.out).mono ?_; rintro e w1 ⟨rfl, hb⟩; have K1 := (Blk.nil w).kept hb; clear hb; have X1 := (Blk.nil w1).lay rfl (ncells na u s) 45)
          | (go_at_call 79; refine (FM'.out _).mono ?_; rintro e w2 ⟨rfl, hb⟩; have K2 := (K1.more _).kept hb; have X2 := X1.kept hb; clear hb; have r0 : rowOf _ (w1.heap.size) = _ := X2.row 0 _ rfl; have c9 : World.cell? _ ⟨w1.heap.size, 129, none⟩ = some (.int .i64 s) := X2.scale 0 rfl)
          | (go_at_call 40; refine (size_any _ _ GA.out.big).mono ?_; rintro e w3 ⟨rfl, hb⟩; have K3 := K2.kept hb; have X3 := X2.kept hb; clear hb; have r3 : rowOf _ (w1.heap.size) = _ := X3.row 0 _ rfl)
          | (go_at_call 56; refine (zero_any _ _ GA.out.big).mono ?_; rintro e w4 ⟨rfl, hb⟩; rw [h0]; have K4 := K3.kept hb; clear hb))
        have hd : decide ((dl u : Int) ≤ d) = false := decide_eq_false (by omega)
        go_ret
        exact ⟨by rw [hd]; rfl, K4.below⟩
      · have hs' : ((s : Int) == t) = false := by simpa using hs
        clear hy e hf
        go_enter Tryz.func81, Tryz.ntmps81
        go_wp2_with (first
          | (go_at_call 35; refine (parse_yes _ _ _ _ GA.out).mono ?_; rintro e w1 ⟨rfl, hb⟩; have K1 := (Blk.nil w).kept hb; clear hb; have X1 := (Blk.nil w1).lay rfl (ncells na u s) 45)
          | (go_at_call 79; refine (FM'.out _).mono ?_; rintro e w2 ⟨rfl, hb⟩; have K2 := (K1.more _).kept hb; have X2 := X1.kept hb; clear hb; have r0 : rowOf _ (w1.heap.size) = _ := X2.row 0 _ rfl; have c9 : World.cell? _ ⟨w1.heap.size, 129, none⟩ = some (.int .i64 s) := X2.scale 0 rfl))
        go_ret
        exact ⟨rfl, K2.below⟩
theorem fits_all (l : List UInt8) (d s : Int) (w : World) (hl : l.length ≤ 500) :
    Calls Tryz.prog 81 #[.string ⟨l.toArray⟩, .int .i64 d, .int .i64 s] w fun e w' => e = .returned (.bool (fitsR l d s)) ∧ Below w.heap.size w w' := by
  cases h : parseB l with
  | false =>
    rw [show fitsR l d s = false by unfold fitsR; rw [h]; rfl]
    exact fits_no l d s w hl h
  | true =>
    obtain ⟨g, ht⟩ := parseB_good h
    have := fits_any _ _ _ d s w g
    rw [ht] at this
    rw [show fitsR l d s = (fmB d s && decide ((sOf l : Int) = s) && decide ((dl (uOf l) : Int) ≤ d)) by unfold fitsR; rw [h, Bool.true_and]]
    exact this
end Go.Proofs.YtkcogoibaodbeaaGreatDoor
namespace Go.Proofs.YtkcogoibaodbeaaGreatDoor
open Go.RowKit
attribute [local irreducible] ncells wcells txt
/-- What To answers. -/
def toR (l : List UInt8) (d s : Int) : List UInt8 × Int := if parseB l = true then (if fmB d s = true then (if (dl (scU (uOf l) (sOf l) s.toNat) : Int) ≤ d then (txt (negOf l) (scU (uOf l) (sOf l) s.toNat) s.toNat, 0) else ([], 4)) else ([], 7)) else ([], 2)
theorem fmB_of {d s : Int} (h : fmB d s = true) : 1 ≤ d ∧ d ≤ 31 ∧ 0 ≤ s ∧ s ≤ d := by unfold fmB at h; simpa using h
set_option maxRecDepth 100000 in
set_option maxHeartbeats 2000000 in
theorem to_all (l : List UInt8) (d s : Int) (w : World) (hl : l.length ≤ 500) :
    Calls Tryz.prog 61 #[.string ⟨l.toArray⟩, .int .i64 d, .int .i64 s] w fun e w' => e = .returned (.tuple #[.string ⟨(toR l d s).1.toArray⟩, .int .i64 (toR l d s).2]) ∧ Below w.heap.size w w' := by
  have V := fun w => valid_all l w hl
  have FM := fun w => formed_any d s w
  cases hp : parseB l with
  | false =>
    rw [show toR l d s = ([], 2) from if_neg (by rw [hp]; decide)]
    rw [hp] at V
    have V' := Lib.hid V
    clear V FM hp hl
    go_enter Tryz.func61, Tryz.ntmps61
    go_wp2_with (go_at_call 8; refine (V'.out _).mono ?_; rintro e w1 ⟨rfl, hb⟩; have K1 := (Blk.nil w).kept hb; clear hb)
    go_ret2
    exact ⟨rfl, K1.below⟩
  | true =>
    rw [hp] at V
    cases hf : fmB d s with
    | false =>
      rw [show toR l d s = ([], 7) by unfold toR; rw [if_pos hp, if_neg (by rw [hf]; decide)]]
      rw [hf] at FM
      have V' := Lib.hid V
      have FM' := Lib.hid FM
      clear V FM hp hl hf
      go_enter Tryz.func61, Tryz.ntmps61
      go_wp2_with (first
        | (go_at_call 8; refine (V'.out _).mono ?_; rintro e w1 ⟨rfl, hb⟩; have K1 := (Blk.nil w).kept hb; clear hb)
        | (go_at_call 79; refine (FM'.out _).mono ?_; rintro e w2 ⟨rfl, hb⟩; have K2 := K1.kept hb; clear hb))
      go_ret2
      exact ⟨rfl, K2.below⟩
    | true =>
      obtain ⟨d1, d2, d3, d4⟩ := fmB_of hf
      obtain ⟨n, rfl⟩ : ∃ n : Nat, s = n := ⟨s.toNat, by omega⟩
      obtain ⟨g, _⟩ := parseB_good hp
      have CT := fun w => cut_all l n w hl
      have ec : cutR l n = wholeR (negOf l) (scU (uOf l) (sOf l) n) n := by unfold cutR; rw [if_pos hp, if_pos ⟨d3, by omega⟩, Int.toNat_natCast]
      have et : toR l d n = if (dl (scU (uOf l) (sOf l) n) : Int) ≤ d then (txt (negOf l) (scU (uOf l) (sOf l) n) n, 0) else ([], 4) := by unfold toR; rw [if_pos hp, if_pos hf, Int.toNat_natCast]
      rw [ec] at CT
      rw [et]
      rw [hf] at FM
      generalize scU (uOf l) (sOf l) n = X at *
      generalize negOf l = N at *
      by_cases hX : dl X ≤ 31
      · rw [show wholeR N X n = (txt N X n, 0) from if_pos hX] at CT
        have FI : ∀ w, _ := fun w => fits_any (sgn N X) X n d n w (good_sgn N hX (by omega))
        rw [txt_sgn, hf, decide_eq_true rfl, Bool.true_and] at FI
        by_cases hd : (dl X : Int) ≤ d
        · rw [if_pos hd]
          rw [decide_eq_true hd] at FI
          have V' := Lib.hid V
          have FM' := Lib.hid FM
          have CT' := Lib.hid CT
          have FI' := Lib.hid FI
          clear V FM CT FI hp hl hf ec et g
          go_enter Tryz.func61, Tryz.ntmps61
          go_wp2_with (first
            | (go_at_call 8; refine (V'.out _).mono ?_; rintro e w1 ⟨rfl, hb⟩; have K1 := (Blk.nil w).kept hb; clear hb)
            | (go_at_call 79; refine (FM'.out _).mono ?_; rintro e w2 ⟨rfl, hb⟩; have K2 := K1.kept hb; clear hb)
            | (go_at_call 80; refine (CT'.out _).mono ?_; rintro e w3 ⟨rfl, hb⟩; have K3 := K2.kept hb; clear hb)
            | (go_at_call 81; refine (FI'.out _).mono ?_; rintro e w4 ⟨rfl, hb⟩; have K4 := K3.kept hb; clear hb))
          go_ret2
          exact ⟨rfl, K4.below⟩
        · rw [if_neg hd]
          rw [decide_eq_false hd, Bool.and_false] at FI
          have V' := Lib.hid V
          have FM' := Lib.hid FM
          have CT' := Lib.hid CT
          have FI' := Lib.hid FI
          clear V FM CT FI hp hl hf ec et g
          go_enter Tryz.func61, Tryz.ntmps61
          go_wp2_with (first
            | (go_at_call 8; refine (V'.out _).mono ?_; rintro e w1 ⟨rfl, hb⟩; have K1 := (Blk.nil w).kept hb; clear hb)
            | (go_at_call 79; refine (FM'.out _).mono ?_; rintro e w2 ⟨rfl, hb⟩; have K2 := K1.kept hb; clear hb)
            | (go_at_call 80; refine (CT'.out _).mono ?_; rintro e w3 ⟨rfl, hb⟩; have K3 := K2.kept hb; clear hb)
            | (go_at_call 81; refine (FI'.out _).mono ?_; rintro e w4 ⟨rfl, hb⟩; have K4 := K3.kept hb; clear hb))
          go_ret2
          exact ⟨rfl, K4.below⟩
      · rw [show wholeR N X n = ([], 4) from if_neg hX] at CT
        rw [if_neg (by omega)]
        have V' := Lib.hid V
        have FM' := Lib.hid FM
        have CT' := Lib.hid CT
        clear V FM CT hp hl hf ec et g
        go_enter Tryz.func61, Tryz.ntmps61
        go_wp2_with (first
          | (go_at_call 8; refine (V'.out _).mono ?_; rintro e w1 ⟨rfl, hb⟩; have K1 := (Blk.nil w).kept hb; clear hb)
          | (go_at_call 79; refine (FM'.out _).mono ?_; rintro e w2 ⟨rfl, hb⟩; have K2 := K1.kept hb; clear hb)
          | (go_at_call 80; refine (CT'.out _).mono ?_; rintro e w3 ⟨rfl, hb⟩; have K3 := K2.kept hb; clear hb))
        go_ret2
        exact ⟨rfl, K3.below⟩
/-- What Length answers. -/
def lenR (d : Int) : Int × Int := if fmB d 0 = true then (d / 2 + 1, 0) else (0, 7)
end Go.Proofs.YtkcogoibaodbeaaGreatDoor
namespace Go.Proofs.YtkcogoibaodbeaaGreatDoor
open Go.RowKit
/-- The array's literal in the walk. -/
def bdW (ps : Array (Nat × Value)) : Sem Value := Instr.build 41 ps
@[go_sem ↓] theorem bdW_eq (ps : Array (Nat × Value)) : Instr.build 41 ps = bdW ps := rfl
@[go_sem] theorem run_bdW (w : World) : (bdW #[(0, .int .u8 1)]).run Tryz.prog w = .ok (.agg (wcells 1)) w := by
  refine run_build (P := Tryz.prog) w _ _ _ ?_
  kernel_rfl
attribute [local irreducible] ncells wcells txt
/-- Rounded. -/
def roundU (u s t : Nat) : Nat := if t < s ∧ 5 ≤ dg u (s - t - 1) then scU u s t + 1 else scU u s t
theorem round_lt {u s t : Nat} (h : dl u ≤ 31) (ht : t ≤ 31) : roundU u s t < 10 ^ 63 := by
  have := sc_lt (s := s) h ht
  have e : (10 : Nat) ^ 63 = 10 ^ 62 * 10 := by rw [← Nat.pow_succ]
  unfold roundU
  split <;> omega
/-- What Round answers. -/
def roundR (l : List UInt8) (t : Int) : List UInt8 × Int := if parseB l = true then (if 0 ≤ t ∧ t ≤ 31 then wholeR (negOf l) (roundU (uOf l) (sOf l) t.toNat) t.toNat else ([], 7)) else ([], 2)
theorem roundR_no {l : List UInt8} {t : Int} (h : parseB l = false ∨ ¬ (0 ≤ t ∧ t ≤ 31)) : roundR l t = ([], if parseB l = true then 7 else 2) := by
  unfold roundR
  cases hp : parseB l with
  | false => simp
  | true =>
    rw [hp] at h
    have h' : ¬ (0 ≤ t ∧ t ≤ 31) := by simpa using h
    rw [if_pos rfl, if_neg h']; rfl
end Go.Proofs.YtkcogoibaodbeaaGreatDoor
