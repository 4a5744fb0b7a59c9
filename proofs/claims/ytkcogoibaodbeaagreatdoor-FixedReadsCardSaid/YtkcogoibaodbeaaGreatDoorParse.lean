/- parse: a decimal out of its text. -/
import Derived.Test.YtkcogoibaodbeaaGreatDoorParsePure
import Derived.Test.YtkcogoibaodbeaaGreatDoorDigits
import Derived.Test.YtkcogoibaodbeaaGreatDoorText
import Derived.Test.YtkcogoibaodbeaaGreatDoorSize
import Derived.RegionTactic
import Derived.BigRegion
import Derived.Deep.DeepCutAuto
set_option linter.unusedVariables false
set_option linter.unusedSimpArgs false
namespace Go.Proofs.YtkcogoibaodbeaaGreatDoor
open Go.RowKit Go.Shelf
/-- A value laid part by part, cell by cell, is laid at once. -/
theorem fold_splice (D : List Value) : ∀ (k off : Nat) (cells : Array Value), off + k + D.length ≤ cells.size →
    (D.zipIdx k).foldl (fun cs (p : Value × Nat) => cs.setIfInBounds (off + p.2) p.1) cells = splice cells (off + k) D.toArray := by
  induction D with
  | nil =>
    intro k off cells h
    simp [splice]
  | cons v D ih =>
    intro k off cells h
    simp only [List.length_cons] at h
    rw [List.zipIdx_cons, List.foldl_cons, ih (k + 1) off _ (by simp; omega)]
    apply Array.ext_getElem?
    intro i
    rw [splice_get _ _ _ (by simp; omega), splice_get _ _ _ (by simp; omega)]
    simp only [List.size_toArray, List.length_cons, List.getElem?_toArray, Array.getElem?_setIfInBounds]
    by_cases hi : i = off + k
    · subst hi
      rw [if_neg (by omega), if_pos rfl, if_pos (by omega), if_pos (by omega)]
      simp
    · by_cases h2 : off + (k + 1) ≤ i ∧ i < off + (k + 1) + D.length
      · rw [if_pos h2, if_pos (by omega), show i - (off + k) = (i - (off + (k + 1))) + 1 by omega]; simp
      · rw [if_neg h2, if_neg (fun e => hi e.symm), if_neg (by omega)]
theorem built_num (parts : List (Nat × Value)) : Tryz.prog.built 45 parts = Instr.fill (#[(0, 1), (1, 128), (129, 1)][·]?) (ncells false 0 0) parts := by kernel_rfl
theorem fold_wide (b : Bool) (u : Nat) (n : Int) : ((wcells u).zipIdx.foldl (fun cs (p : Value × Nat) => cs.setIfInBounds (1 + p.2) p.1) (ncells b 0 n)) = ncells b u n := by
  have h := fold_splice (wcells u).toList 0 1 (ncells b 0 n) (by simp)
  rw [Array.toArray_toList, ncells_splice_u] at h
  rw [← h]
  rw [← Array.foldl_toList, Array.toList_zipIdx]
theorem build_num (b : Bool) (u : Nat) (n : Int) (w : World) :
    (Instr.build 45 #[(0, .bool b), (1, .agg (wcells u)), (2, .int .i64 n)]).run Tryz.prog w = .ok (.agg (ncells b u n)) w := by
  refine run_build (P := Tryz.prog) w _ _ _ ?_
  rw [built_num]
  have h0 : (ncells false 0 0).setIfInBounds 0 (.bool b) = ncells b 0 0 := ncells_set_neg _ _ _ _
  have h2 : (ncells b u 0).setIfInBounds 129 (.int .i64 n) = ncells b u n := ncells_set_scale _ _ _ _
  have h1 : Array.foldl (fun cs (p : Value × Nat) => cs.setIfInBounds (1 + p.2) p.1) (ncells b 0 0) (wcells u).zipIdx 0 128 = ncells b u 0 := by
    have := fold_wide b u 0
    simpa using this
  simp [Instr.fill, Value.cells, h0, h1, h2]
/-- The struct's literal in the walk. -/
def bdN (ps : Array (Nat × Value)) : Sem Value := Instr.build 45 ps
@[go_sem ↓] theorem bdN_eq (ps : Array (Nat × Value)) : Instr.build 45 ps = bdN ps := rfl
@[go_sem] theorem run_bdN (b : Bool) (u : Nat) (n : Int) (w : World) : (bdN #[(0, .bool b), (1, .agg (wcells u)), (2, .int .i64 n)]).run Tryz.prog w = .ok (.agg (ncells b u n)) w := build_num b u n w
def ParsePost (l : List UInt8) (w : World) (e : Ending) (w' : World) : Prop :=
  ∃ m, m < Big ∧ (parseB l = true → m = uOf l) ∧ e = .returned (.tuple #[.agg (ncells (negOf l) m (partOf l).length), .bool (parseB l)]) ∧ Below w.heap.size w w'
theorem cutPrefix_any (l : List UInt8) (w : World) :
    Calls Tryz.prog 71 #[.string ⟨l.toArray⟩, .string ⟨#[45]⟩] w fun e w' => e = .returned (.tuple #[.string ⟨(restOf l).toArray⟩, .bool (negOf l)]) ∧ w = w' :=
  (Tryz.strings_CutPrefix ⟨l.toArray⟩ ⟨#[45]⟩ w).mono fun _ _ h => ⟨h.1, h.2.symm⟩
theorem rest_length {l : List UInt8} (hl : l.length ≤ 500) : (restOf l).length ≤ 500 := by
  unfold restOf Lib.trimPrefix
  split
  · rw [List.length_drop]; omega
  · exact hl
theorem cut_parts (l : List UInt8) (w : World) (hl : l.length ≤ 500) :
    Calls Tryz.prog 29 #[.string ⟨(restOf l).toArray⟩, .string ⟨#[46]⟩] w fun e w' => e = .returned (.tuple #[.string ⟨(wholeOf l).toArray⟩, .string ⟨(partOf l).toArray⟩, .bool (pointOf l)]) ∧ Below w.heap.size w w' :=
  cut_any (restOf l) w (by have := rest_length hl; omega)
theorem parts_length {l : List UInt8} (hl : l.length ≤ 500) : (wholeOf l).length ≤ 500 ∧ (partOf l).length ≤ 500 := by
  have h := rest_length hl
  have h1 := cutDot_length (restOf l)
  unfold wholeOf partOf; omega
theorem cat_list (a b : List UInt8) : ((⟨a.toArray⟩ : ByteArray) ++ ⟨b.toArray⟩).data.toList = a ++ b := by simp
theorem cat_size (a b : List UInt8) : ((⟨a.toArray⟩ : ByteArray) ++ ⟨b.toArray⟩).size = (a ++ b).length := by simp [ByteArray.size]
theorem digits_parts (l : List UInt8) (w : World) (hd : (wholeOf l ++ partOf l).all isD = true) (hl : (wholeOf l ++ partOf l).length ≤ 128) :
    Calls Tryz.prog 31 #[.string ((⟨(wholeOf l).toArray⟩ : ByteArray) ++ ⟨(partOf l).toArray⟩)] w fun e w' => e = .returned (.tuple #[.agg (wcells (uOf l)), .bool true]) ∧ Below w.heap.size w w' := by
  have := digits_yes ((⟨(wholeOf l).toArray⟩ : ByteArray) ++ ⟨(partOf l).toArray⟩) w (by rw [cat_list]; exact hd) (by rw [cat_size]; exact hl)
  rw [cat_list] at this
  exact this
theorem digits_parts_no (l : List UInt8) (w : World) (h5 : l.length ≤ 500) (hd : ¬ ((wholeOf l ++ partOf l).all isD = true ∧ (wholeOf l ++ partOf l).length ≤ 128)) :
    Calls Tryz.prog 31 #[.string ((⟨(wholeOf l).toArray⟩ : ByteArray) ++ ⟨(partOf l).toArray⟩)] w (SomeWide w) :=
  digits_no _ w (by rw [cat_size]; have := parts_length h5; unfold maxLen; simp; omega) (by rw [cat_list, cat_size]; exact hd)
/-- The result's block, and that nothing older has turned. -/
structure ParseW (w W : World) : Prop where
  r0 : rowOf W w.heap.size = ncells false 0 0
  f0 : freeOf W w.heap.size = true
  below : Below w.heap.size w W
  size : w.heap.size + 1 ≤ W.heap.size
theorem ParseW.start (w : World) : ParseW w (w.alloc (.cells (ncells false 0 0) 45)) := ⟨by go_simp, by go_simp, (Below.refl _ _).alloc (Nat.le_refl _) _, by simp⟩
theorem ParseW.kept {w W W' : World} (T : ParseW w W) (h : Below W.heap.size W W') : ParseW w W' := by
  obtain ⟨hr, hf⟩ := rows_kept h
  have hz := h.size
  have hs := T.size
  exact ⟨(hr _ (by omega)).trans T.r0, (hf _ (by omega)).trans T.f0, T.below.trans (h.mono (by omega)), by omega⟩
theorem ParseW.alloc {w W : World} (T : ParseW w W) (o : Obj) : ParseW w (W.alloc o) := T.kept ((Below.refl _ _).alloc (Nat.le_refl _) _)
theorem ParseW.ret {w W : World} (T : ParseW w W) (b : Bool) (u : Nat) (n : Int) : Below w.heap.size w (W.putRow w.heap.size 0 (ncells b u n)) ∧ rowOf (W.putRow w.heap.size 0 (ncells b u n)) w.heap.size = ncells b u n :=
  ⟨T.below.putRow (Nat.le_refl _) _ _, by rw [rowOf_putRow_same _ _ _ _ T.f0, T.r0, splice_num]⟩
/-- .. and the block of the number that was read. -/
structure ParseV (w W : World) (bk : Nat) (neg : Bool) (u : Nat) (n : Int) : Prop extends ParseW w W where
  rk : rowOf W bk = ncells neg u n
  hk : bk < W.heap.size
  hw : w.heap.size < bk
theorem ParseV.kept {w W W' : World} {bk : Nat} {neg : Bool} {u : Nat} {n : Int} (T : ParseV w W bk neg u n) (h : Below W.heap.size W W') : ParseV w W' bk neg u n :=
  ⟨T.toParseW.kept h, ((rows_kept h).1 _ T.hk).trans T.rk, Nat.lt_of_lt_of_le T.hk h.size, T.hw⟩
theorem ParseV.drew {w W : World} {bk : Nat} {neg : Bool} {u : Nat} {n : Int} (T : ParseV w W bk neg u n) : ParseV w W.drew bk neg u n := ⟨⟨T.r0, T.f0, T.below.drew, T.size⟩, T.rk, T.hk, T.hw⟩
set_option maxRecDepth 100000 in
set_option maxHeartbeats 400000 in
theorem parse_nodigits (l : List UInt8) (w : World) (hl : l.length ≤ 500) (hd : ¬ ((wholeOf l ++ partOf l).all isD = true ∧ (wholeOf l ++ partOf l).length ≤ 128)) :
    Calls Tryz.prog 35 #[.string ⟨l.toArray⟩] w (ParsePost l w) := by
  have hlp := (parts_length hl).2
  have hlw := (parts_length hl).1
  have hp : parseB l = false := by
    unfold parseB
    rw [Bool.eq_false_iff]
    intro h
    simp only [Bool.and_eq_true, decide_eq_true_eq] at h
    exact hd ⟨h.1.1.1.1.1.1, h.1.1.1.1.1.2⟩
  have HP := Lib.hid hp
  have HD := Lib.hid hd
  have T0 := ParseW.start w
  clear hp hd
  go_enter Tryz.func35, Tryz.ntmps35
  go_wp2_with (first | (go_at_call 71; refine (cutPrefix_any _ _).mono ?_; rintro e w1 ⟨rfl, rfl⟩) | (go_at_call 29; refine (cut_parts _ _ hl).mono ?_; rintro e w2 ⟨rfl, hb2⟩; have T2 := T0.kept hb2; clear hb2) | (go_at_call 31; refine (digits_parts_no _ _ hl HD.out).mono ?_; rintro e w3 ⟨m, hm, rfl, hb3⟩; have T3 := T2.kept hb3; clear hb3; have r0 := T3.r0; have f0 := T3.f0; have z3 : w.heap.size < w3.heap.size := T3.size; have z4 : w.heap.size < w3.heap.size + 1 := Nat.lt_succ_of_lt z3))
  go_region
  go_wp2
  refine ret_row_tmp (b := w.heap.size) (C := ncells (negOf l) m (partOf l).length) (v := .bool false) rfl rtNum rfl rfl (by go_simp) (by simp) ?_
  show ParsePost l w _ _
  refine ⟨m, hm, ?_, ?_, ((((T3.ret _ _ _).1.alloc (by simp only [size_putRow]; omega) _).alloc (by simp only [World.size_alloc, size_putRow]; omega) _)).drew⟩
  · intro h; rw [HP.out] at h; cases h
  · rw [HP.out]
set_option maxRecDepth 100000 in
set_option maxHeartbeats 2000000 in
theorem parse_digits (l : List UInt8) (w : World) (hl : l.length ≤ 500) (hd : (wholeOf l ++ partOf l).all isD = true) (hd2 : (wholeOf l ++ partOf l).length ≤ 128) :
    Calls Tryz.prog 35 #[.string ⟨l.toArray⟩] w (ParsePost l w) := by
  have hlp := (parts_length hl).2
  have hlw := (parts_length hl).1
  have hub : uOf l < Big := Nat.lt_of_lt_of_le (valD_lt hd) (Nat.pow_le_pow_right (by decide) hd2)
  have HU := Lib.hid hub
  have HD := Lib.hid hd
  have HD2 := Lib.hid hd2
  have T0 := ParseW.start w
  clear hd hd2 hub
  go_enter Tryz.func35, Tryz.ntmps35
  go_upto_region 5 with (first | (go_at_call 71; refine (cutPrefix_any _ _).mono ?_; rintro e w1 ⟨rfl, rfl⟩) | (go_at_call 29; refine (cut_parts _ _ hl).mono ?_; rintro e w2 ⟨rfl, hb2⟩; have T2 := T0.kept hb2; clear hb2) | (go_at_call 31; refine (digits_parts _ _ HD.out HD2.out).mono ?_; rintro e w3 ⟨rfl, hb3⟩; have T3 := T2.kept hb3; clear hb3; have r0 := T3.r0; have f0 := T3.f0; have z3 : w.heap.size < w3.heap.size := T3.size; have z4 : w.heap.size < w3.heap.size + 1 := Nat.lt_succ_of_lt z3))
  obtain ⟨n, hn⟩ : ∃ n, n = (partOf l).length := ⟨_, rfl⟩
  rw [← hn]
  have HN := Lib.hid hn
  clear hn hlp hlw T0 T2
  by_cases c1 : wholeOf l = []
  · have HP : Hid (parseB l = false) := by
      unfold Hid parseB
      rw [Bool.eq_false_iff]
      intro h
      simp only [Bool.and_eq_true, decide_eq_true_eq] at h
      have := h.1.1.1.1.2; rw [c1] at this; exact absurd this (by decide)
    go_wp2_with fail
    go_region
    go_wp2
    refine ret_row_tmp (b := w.heap.size) (C := ncells (negOf l) (uOf l) n) (v := .bool false) rfl rtNum rfl rfl (by go_simp) (by simp) ?_
    show ParsePost l w _ _
    refine ⟨uOf l, HU.out, fun _ => rfl, ?_, ((((T3.ret _ _ _).1.alloc (by simp only [size_putRow]; omega) _).alloc (by simp only [World.size_alloc, size_putRow]; omega) _)).drew⟩
    rw [HP.out, HN.out]
  · have c1b : (wholeOf l).isEmpty = false := by simpa using c1
    by_cases c2 : partOf l = []
    · rcases c3 : pointOf l with _ | _
      · by_cases c4 : n ≤ 31
        · have V5 : ParseV w ((w3.alloc (.cells (wcells (uOf l)) 41)).alloc (.cells (ncells (negOf l) (uOf l) n) 45)) (w3.heap.size + 1) (negOf l) (uOf l) n :=
            ⟨(T3.alloc _).alloc _, by go_simp, by simp, by omega⟩
          by_cases c5 : dl (uOf l) ≤ 31
          · have c5b : decide ((dl (uOf l) : Int) ≤ 31) = true := by simp; omega
            go_wp2_with (go_at_call 40; refine (size_any _ _ HU.out).mono ?_; rintro e w4 ⟨rfl, hb4⟩; have V6 := V5.kept hb4; clear hb4; have rk := V6.rk; have r1 := V6.r0; have f1 := V6.f0)
            have HPB : Hid (parseB l = (txt (negOf l) (uOf l) n == l)) := by
              unfold Hid parseB
              have p1 : (pointOf l == !(partOf l).isEmpty) = true := by rw [c3]; simp [c2]
              rw [HD.out, p1, c1b, decide_eq_true HD2.out, decide_eq_true c5, decide_eq_true (by rw [← HN.out]; exact c4), HN.out]
              simp
            have VD := V6.drew
            have n127 : n < 127 := by omega
            clear V5 c4 c5 c5b T3 r0 f0 z3 z4 c1 c1b
            go_region_with (go_at_call 32; refine (text_any _ _ _ _ HU.out n127).mono ?_; rintro e w5 ⟨rfl, hb5⟩; have V7 := ParseV.kept (by assumption) hb5; clear hb5; have rk := V7.rk; have r1 := V7.r0; have f1 := V7.f0)
            all_goals go_wp2
            all_goals
              refine ret_row_tmp (b := w.heap.size) (C := ncells (negOf l) (uOf l) n) (v := .bool (txt (negOf l) (uOf l) n == l)) rfl rtNum rfl rfl (by rw [rowOf_putRow_same _ _ _ _ V7.f0, V7.r0, splice_num]) (by simp) ?_
              show ParsePost l w _ _
              refine ⟨uOf l, HU.out, fun _ => rfl, ?_, (V7.ret _ _ _).1⟩
              rw [HPB.out, HN.out]
          · have HP : Hid (parseB l = false) := by
              unfold Hid parseB
              rw [Bool.eq_false_iff]
              intro h
              simp only [Bool.and_eq_true, decide_eq_true_eq] at h
              exact c5 h.1.2
            have c5b : decide ((dl (uOf l) : Int) ≤ 31) = false := by simp; omega
            go_wp2_with (go_at_call 40; refine (size_any _ _ HU.out).mono ?_; rintro e w4 ⟨rfl, hb4⟩; have V6 := V5.kept hb4; clear hb4; have rk := V6.rk; have r1 := V6.r0; have f1 := V6.f0)
            go_region
            go_wp2
            refine ret_row_tmp (b := w.heap.size) (C := ncells (negOf l) (uOf l) n) (v := .bool false) rfl rtNum rfl rfl (by go_simp) (by simp) ?_
            show ParsePost l w _ _
            refine ⟨uOf l, HU.out, fun _ => rfl, ?_, (V6.ret _ _ _).1.drew⟩
            rw [HP.out, HN.out]
        · have HP : Hid (parseB l = false) := by
            unfold Hid parseB
            rw [Bool.eq_false_iff]
            intro h
            simp only [Bool.and_eq_true, decide_eq_true_eq] at h
            exact c4 (by rw [HN.out]; exact h.1.1.2)
          go_wp2_with fail
          go_region
          go_wp2
          refine ret_row_tmp (b := w.heap.size) (C := ncells (negOf l) (uOf l) n) (v := .bool false) rfl rtNum rfl rfl (by go_simp) (by simp) ?_
          show ParsePost l w _ _
          refine ⟨uOf l, HU.out, fun _ => rfl, ?_, ((((T3.ret _ _ _).1.alloc (by simp only [size_putRow]; omega) _).alloc (by simp only [World.size_alloc, size_putRow]; omega) _)).drew⟩
          rw [HP.out, HN.out]
      · have HP : Hid (parseB l = false) := by
          unfold Hid parseB
          rw [Bool.eq_false_iff]
          intro h
          simp only [Bool.and_eq_true, decide_eq_true_eq] at h
          have := h.1.1.1.2; rw [c2, c3] at this; exact absurd this (by decide)
        go_wp2_with fail
        go_region
        go_wp2
        refine ret_row_tmp (b := w.heap.size) (C := ncells (negOf l) (uOf l) n) (v := .bool false) rfl rtNum rfl rfl (by go_simp) (by simp) ?_
        show ParsePost l w _ _
        refine ⟨uOf l, HU.out, fun _ => rfl, ?_, ((((T3.ret _ _ _).1.alloc (by simp only [size_putRow]; omega) _).alloc (by simp only [World.size_alloc, size_putRow]; omega) _)).drew⟩
        rw [HP.out, HN.out]
    · have c2b : (partOf l).isEmpty = false := by simpa using c2
      rcases c3 : pointOf l with _ | _
      · have HP : Hid (parseB l = false) := by
          unfold Hid parseB
          rw [Bool.eq_false_iff]
          intro h
          simp only [Bool.and_eq_true, decide_eq_true_eq] at h
          have h2 := h.1.1.1.2; rw [c3] at h2; have : (partOf l).isEmpty = false := by simpa using c2
          rw [this] at h2; exact absurd h2 (by decide)
        go_wp2_with fail
        go_region
        go_wp2
        refine ret_row_tmp (b := w.heap.size) (C := ncells (negOf l) (uOf l) n) (v := .bool false) rfl rtNum rfl rfl (by go_simp) (by simp) ?_
        show ParsePost l w _ _
        refine ⟨uOf l, HU.out, fun _ => rfl, ?_, ((((T3.ret _ _ _).1.alloc (by simp only [size_putRow]; omega) _).alloc (by simp only [World.size_alloc, size_putRow]; omega) _)).drew⟩
        rw [HP.out, HN.out]
      · by_cases c4 : n ≤ 31
        · have V5 : ParseV w ((w3.alloc (.cells (wcells (uOf l)) 41)).alloc (.cells (ncells (negOf l) (uOf l) n) 45)) (w3.heap.size + 1) (negOf l) (uOf l) n :=
            ⟨(T3.alloc _).alloc _, by go_simp, by simp, by omega⟩
          by_cases c5 : dl (uOf l) ≤ 31
          · have c5b : decide ((dl (uOf l) : Int) ≤ 31) = true := by simp; omega
            go_wp2_with (go_at_call 40; refine (size_any _ _ HU.out).mono ?_; rintro e w4 ⟨rfl, hb4⟩; have V6 := V5.kept hb4; clear hb4; have rk := V6.rk; have r1 := V6.r0; have f1 := V6.f0)
            have HPB : Hid (parseB l = (txt (negOf l) (uOf l) n == l)) := by
              unfold Hid parseB
              have p1 : (pointOf l == !(partOf l).isEmpty) = true := by rw [c3]; simp [c2]
              rw [HD.out, p1, c1b, decide_eq_true HD2.out, decide_eq_true c5, decide_eq_true (by rw [← HN.out]; exact c4), HN.out]
              simp
            have VD := V6.drew
            have n127 : n < 127 := by omega
            clear V5 c4 c5 c5b T3 r0 f0 z3 z4 c1 c1b
            go_region_with (go_at_call 32; refine (text_any _ _ _ _ HU.out n127).mono ?_; rintro e w5 ⟨rfl, hb5⟩; have V7 := ParseV.kept (by assumption) hb5; clear hb5; have rk := V7.rk; have r1 := V7.r0; have f1 := V7.f0)
            all_goals go_wp2
            all_goals
              refine ret_row_tmp (b := w.heap.size) (C := ncells (negOf l) (uOf l) n) (v := .bool (txt (negOf l) (uOf l) n == l)) rfl rtNum rfl rfl (by rw [rowOf_putRow_same _ _ _ _ V7.f0, V7.r0, splice_num]) (by simp) ?_
              show ParsePost l w _ _
              refine ⟨uOf l, HU.out, fun _ => rfl, ?_, (V7.ret _ _ _).1⟩
              rw [HPB.out, HN.out]
          · have HP : Hid (parseB l = false) := by
              unfold Hid parseB
              rw [Bool.eq_false_iff]
              intro h
              simp only [Bool.and_eq_true, decide_eq_true_eq] at h
              exact c5 h.1.2
            have c5b : decide ((dl (uOf l) : Int) ≤ 31) = false := by simp; omega
            go_wp2_with (go_at_call 40; refine (size_any _ _ HU.out).mono ?_; rintro e w4 ⟨rfl, hb4⟩; have V6 := V5.kept hb4; clear hb4; have rk := V6.rk; have r1 := V6.r0; have f1 := V6.f0)
            go_region
            go_wp2
            refine ret_row_tmp (b := w.heap.size) (C := ncells (negOf l) (uOf l) n) (v := .bool false) rfl rtNum rfl rfl (by go_simp) (by simp) ?_
            show ParsePost l w _ _
            refine ⟨uOf l, HU.out, fun _ => rfl, ?_, (V6.ret _ _ _).1.drew⟩
            rw [HP.out, HN.out]
        · have HP : Hid (parseB l = false) := by
            unfold Hid parseB
            rw [Bool.eq_false_iff]
            intro h
            simp only [Bool.and_eq_true, decide_eq_true_eq] at h
            exact c4 (by rw [HN.out]; exact h.1.1.2)
          go_wp2_with fail
          go_region
          go_wp2
          refine ret_row_tmp (b := w.heap.size) (C := ncells (negOf l) (uOf l) n) (v := .bool false) rfl rtNum rfl rfl (by go_simp) (by simp) ?_
          show ParsePost l w _ _
          refine ⟨uOf l, HU.out, fun _ => rfl, ?_, ((((T3.ret _ _ _).1.alloc (by simp only [size_putRow]; omega) _).alloc (by simp only [World.size_alloc, size_putRow]; omega) _)).drew⟩
          rw [HP.out, HN.out]
theorem parse_any (l : List UInt8) (w : World) (hl : l.length ≤ 500) : Calls Tryz.prog 35 #[.string ⟨l.toArray⟩] w (ParsePost l w) := by
  by_cases hd : (wholeOf l ++ partOf l).all isD = true ∧ (wholeOf l ++ partOf l).length ≤ 128
  · exact parse_digits l w hl hd.1 hd.2
  · exact parse_nodigits l w hl hd
theorem good_length {neg : Bool} {u s : Nat} (g : Good neg u s) : (txt neg u s).length ≤ 500 := by
  have h1 := g.u31
  have h2 := g.s31
  have := txt_length (neg := neg) (u := u) (s := s) ((dl_le_iff u 128 (by decide)).1 (by omega)) (by omega)
  omega
theorem parse_yes (neg : Bool) (u s : Nat) (w : World) (g : Good neg u s) :
    Calls Tryz.prog 35 #[.string ⟨(txt neg u s).toArray⟩] w fun e w' => e = .returned (.tuple #[.agg (ncells neg u s), .bool true]) ∧ Below w.heap.size w w' :=
  (parse_any (txt neg u s) w (good_length g)).mono fun e w' ⟨m, _, h1, h2, h3⟩ => by
    obtain ⟨e1, e2, e3, _⟩ := good_parse g
    have hb := parseB_txt g
    have hm := h1 hb
    rw [e2] at hm
    rw [e1, hm, e3, hb] at h2
    exact ⟨h2, h3⟩
def SomeNum (w : World) (e : Ending) (w' : World) : Prop := ∃ neg m n, m < Big ∧ e = .returned (.tuple #[.agg (ncells neg m n), .bool false]) ∧ Below w.heap.size w w'
theorem parse_no (l : List UInt8) (w : World) (hl : l.length ≤ 500) (h : parseB l = false) : Calls Tryz.prog 35 #[.string ⟨l.toArray⟩] w (SomeNum w) :=
  (parse_any l w hl).mono fun e w' ⟨m, hm, _, h2, h3⟩ => ⟨_, m, _, hm, by rw [h] at h2; exact h2, h3⟩
end Go.Proofs.YtkcogoibaodbeaaGreatDoor
