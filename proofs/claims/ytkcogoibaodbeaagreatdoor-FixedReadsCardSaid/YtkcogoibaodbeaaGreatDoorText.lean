/- number.text: a decimal's text. -/
import Derived.Test.YtkcogoibaodbeaaGreatDoorBuilder
import Derived.Test.YtkcogoibaodbeaaGreatDoorTxtPure
import Derived.Test.YtkcogoibaodbeaaGreatDoorSize
import Derived.Test.YtkcogoibaodbeaaGreatDoorZero
import Derived.RegionTactic
import Derived.IntWalk
import Derived.BigRegion
import Derived.Deep.DeepCutAuto
set_option linter.unusedVariables false
set_option linter.unusedSimpArgs false
namespace Go.Proofs.YtkcogoibaodbeaaGreatDoor
open Go.RowKit Go.Shelf
/-- The number's block and the builder with what has been written. -/
structure TextW (w W : World) (neg : Bool) (u : Nat) (s : Int) (l : List UInt8) : Prop where
  r0 : rowOf W w.heap.size = ncells neg u s
  bld : Lib.IsBuilder 88 5 (w.heap.size + 1) (w.heap.size + 1) (Lib.byteCells l) W
  below : Below w.heap.size w W
  size : w.heap.size + 2 ≤ W.heap.size
theorem byteCells_snoc (l : List UInt8) (c : UInt8) : Lib.byteCells (l ++ [c]) = Lib.byteCells l ++ [.int .u8 c.toNat] := by simp [Lib.byteCells]
theorem bld_kept {T e B b : Nat} {bs : List Value} {W W' : World} (h : Lib.IsBuilder T e B b bs W) (k : Below W.heap.size W W') : Lib.IsBuilder T e B b bs W' := by
  have key : ∀ p, Lib.BuilderAt T e B b p bs W → Lib.BuilderAt T e B b p bs W' := by
    rintro p ⟨hB, v, hb, hown, hne⟩
    have hlt : b < W.heap.size := (Array.getElem?_eq_some_iff.1 hb).1
    exact ⟨hB, v, (k.block b hlt).trans hb, hown.kept (row := none) ⟨k.os, k.tape, k.output, k.size, fun i hi _ => k.block i hi⟩ (Classical.em _), hne⟩
  exact h.imp (key _) (key _)
theorem TextW.kept {w W W' : World} {neg : Bool} {u : Nat} {s : Int} {l : List UInt8} (T : TextW w W neg u s l) (h : Below W.heap.size W W') : TextW w W' neg u s l := by
  have hz := h.size
  have hs := T.size
  exact ⟨((rows_kept h).1 _ (by omega)).trans T.r0, bld_kept T.bld h, T.below.trans (h.mono (by omega)), by omega⟩
theorem TextW.drew {w W : World} {neg : Bool} {u : Nat} {s : Int} {l : List UInt8} (T : TextW w W neg u s l) : TextW w W.drew neg u s l := ⟨T.r0, T.bld, T.below.drew, T.size⟩
theorem TextW.scale {w W : World} {neg : Bool} {u : Nat} {s : Int} {l : List UInt8} (T : TextW w W neg u s l) : W.cell? ⟨w.heap.size, 129, none⟩ = some (.int .i64 s) := by rw [cell_row, T.r0]; exact ncells_scale _ _ _
theorem TextW.digit {w W : World} {neg : Bool} {u : Nat} {s : Int} {l : List UInt8} (T : TextW w W neg u s l) {i : Nat} (hi : i < 128) : W.cell? ⟨w.heap.size, 1 + i, none⟩ = some (.int .u8 (dg u i)) := by
  rw [cell_row, T.r0, ncells_get _ _ _ _ (by omega), if_neg (by omega), if_neg (by omega), show 1 + i - 1 = i by omega]
theorem TextW.write {w W W' : World} {neg : Bool} {u : Nat} {s : Int} {l : List UInt8} (T : TextW w W neg u s l) {c : Int} {d : UInt8} (hc : c = d.toNat)
    (h : Lib.BuilderAt 88 5 (w.heap.size + 1) (w.heap.size + 1) (.pointer (some ⟨w.heap.size + 1, 0, none⟩)) (Lib.byteCells l ++ [.int .u8 c]) W') (hb : Below (w.heap.size + 1) W W') : TextW w W' neg u s (l ++ [d]) := by
  have hz := hb.size
  have hs := T.size
  refine ⟨((rows_kept hb).1 _ (by omega)).trans T.r0, .inr ?_, T.below.trans (hb.mono (by omega)), by omega⟩
  rw [byteCells_snoc, ← hc]; exact h
theorem chr_toNat {d : Nat} (h : d < 10) : (48 : Int) + (d : Int) = (chr d).toNat := by
  unfold chr
  rw [UInt8.toNat_ofNat']; omega
theorem txt_length {neg : Bool} {u s : Nat} (hu : u < Big) (hs : s < 127) : (txt neg u s).length ≤ 300 := by
  have h1 : dl u ≤ 128 := (dl_le_iff u 128 (by decide)).2 hu
  have h2 := txtBody_length u s (txtLen u s)
  have h3 : txtLen u s ≤ 128 := by unfold txtLen; omega
  unfold txt
  rw [List.length_append]
  split <;> simp <;> omega
set_option maxRecDepth 100000 in
set_option maxHeartbeats 2000000 in
theorem text_any (neg : Bool) (u s : Nat) (w : World) (hu : u < Big) (hs : s < 127) :
    Calls Tryz.prog 32 #[.agg (ncells neg u s)] w fun e w' => e = .returned (.string ⟨(txt neg u s).toArray⟩) ∧ Below w.heap.size w w' := by
  have HU := Lib.hid hu
  have HL := Lib.hid (txt_length (neg := neg) hu hs)
  have hdl : dl u ≤ 128 := (dl_le_iff u 128 (by decide)).2 hu
  have hdl0 := dl_pos u
  have hne := Lib.hid (txt_ne neg u s)
  clear hu
  go_enter Tryz.func32, Tryz.ntmps32
  go_upto_region 2 with fail
  have T0 : TextW w ((w.alloc (.cells (ncells neg u s) 45)).alloc (.cells #[.pointer none, .slice none 0 0] 88)) neg u s [] :=
    ⟨by go_simp, .inl ⟨Nat.le_refl _, .slice none 0 0, heap_alloc_new' _ _ _ (by simp), World.ownsRow_nil _ _ _ _, by simp [Value.ownBlock]⟩, ((Below.refl _ w).alloc (Nat.le_refl _) _).alloc (by simp) _, by simp⟩
  obtain ⟨W, hW⟩ : ∃ W, (w.alloc (.cells (ncells neg u s) 45)).alloc (.cells #[.pointer none, .slice none 0 0] 88) = W := ⟨_, rfl⟩
  rw [hW] at T0 ⊢
  clear hW
  have c0 : W.cell? ⟨w.heap.size, 0, none⟩ = some (.bool neg) := by rw [cell_row, T0.r0]; exact ncells_neg _ _ _
  have r0 := T0.r0
  have bB := T0.bld
  have zB := T0.size
  rcases hneg : (neg && !(u == 0)) with _ | _
  all_goals
    have HT : Hid (txt neg u s = (if neg && !(u == 0) then [45] else []) ++ txtBody u s (txtLen u s)) := rfl
    rw [hneg] at HT
  · cases neg with
    | false =>
      clear hneg
      have T1 := T0
      go_wp2
      clear c0 r0 bB zB
      have HT1 : Hid ([] ++ txtBody u s (txtLen u s) = txt false u s) := HT.out.symm
      go_cut [4] (fun s4 W => s4 = .int .i64 ((txtLen u s : Int) - 1) ∧ ∃ l, Hid (l ++ txtBody u s (txtLen u s) = txt false u s) ∧ TextW w W false u s l)
      case first =>
        have TD := T1.drew
        have r0 := T1.r0
        have c9 := T1.scale
        have w1 : IntKind.i64.wrap ((s : Int) + 1) = (s : Int) + 1 := IntWalk.i64_in _ (by omega)
        have hmx : max (dl u : Int) ((s : Int) + 1) = (txtLen u s : Int) := by unfold txtLen; omega
        have hl1 : txtLen u s ≤ 128 := by unfold txtLen; omega
        have w2 : IntKind.i64.wrap ((txtLen u s : Int) - 1) = (txtLen u s : Int) - 1 := IntWalk.i64_in _ (by omega)
        go_region_with (go_at_call 40; refine (size_any _ _ HU.out).mono ?_; rintro e w' ⟨rfl, hbk⟩; have T5 := TextW.kept (by assumption) hbk; clear hbk; have r0 := T5.r0; have c9 := T5.scale)
        all_goals (go_wp2_with fail; go_meet; exact ⟨rfl, _, HT1, by assumption⟩)
      case rest =>
        obtain ⟨rfl, l, HT3, T3⟩ := hcut
        clear T0 T1 HT HT1
        go_wp2
        have hl0 := txtLen_pos u s
        have hl1 : txtLen u s ≤ 128 := by unfold txtLen; omega
        go_loopw [4] (fun s4 W => ∃ (i : Nat) (l : List UInt8), i ≤ txtLen u s ∧ s4 = .int .i64 ((i : Int) - 1) ∧ Hid (l ++ txtBody u s i = txt false u s) ∧ TextW w W false u s l) (fun s4 _ => (intOf s4 + 1).toNat)
        case atStart => exact ⟨txtLen u s, l, Nat.le_refl _, rfl, HT3, T3⟩
        case round =>
          obtain ⟨i, l1, hi, rfl, HB, T6⟩ := hrel
          clear T3 HT3 l
          by_cases hlt : 1 ≤ i
          · obtain ⟨j, rfl⟩ : ∃ j, i = j + 1 := ⟨i - 1, by omega⟩
            have cj : ((j + 1 : Nat) : Int) - 1 = (j : Int) := by omega
            rw [cj]
            clear cj
            have hd := dg_lt u j
            have hj128 : (j : Int) < 128 := by omega
            have cd := T6.digit (i := j) (by omega)
            have hlen : l1.length ≤ 300 := by have h1 := HL.out; rw [← HB.out] at h1; simp at h1; omega
            by_cases hjs : j = s ∧ 0 < j
            · have HB2 : Hid (l1 ++ [chr (dg u j)] ++ [46] ++ txtBody u s j = txt false u s) := by
                have h1 := HB.out; rw [txtBody, if_pos hjs] at h1; unfold Hid; simpa using h1
              obtain ⟨hjs1, hj0⟩ := hjs
              have hjI : ((j : Int) == (s : Int)) = true := by simp [hjs1]
              clear hjs1 hlt
              have c9 := T6.scale
              have HJ1 : Hid True := trivial
              go_wp2_with (first | (have _t := HJ1; (go_at_call 68; refine (writeByte_any (w.heap.size + 1) (w.heap.size + 1) _ _ _ T6.bld (by simp [Lib.byteCells]; omega) (by have := T6.size; omega)).mono ?_; rintro e w2 ⟨rfl, hbw, hbk⟩; have T7 := T6.write (d := chr (dg u j)) (chr_toNat hd) hbw hbk; clear hbw hbk cd c9 T6; have c9 := T7.scale); clear HJ1) | (go_at_call 68; refine (writeByte_any (w.heap.size + 1) (w.heap.size + 1) _ _ _ T7.bld (by simp [Lib.byteCells]; omega) (by have := T7.size; omega)).mono ?_; rintro e w3 ⟨rfl, hbw, hbk⟩; have T8 := T7.write (d := 46) rfl hbw hbk; clear hbw hbk))
              refine ⟨⟨j, _, by omega, rfl, HB2, T8⟩, by simp [intOf]⟩
            · have HB2 : Hid (l1 ++ [chr (dg u j)] ++ txtBody u s j = txt false u s) := by
                have h1 := HB.out; rw [txtBody, if_neg hjs] at h1; unfold Hid; simpa using h1
              have c9 := T6.scale
              by_cases hjs1 : j = s
              · have hjI : ((j : Int) == (s : Int)) = true := by simp [hjs1]
                have hj0 : ¬ 0 < j := fun h => hjs ⟨hjs1, h⟩
                clear hjs hjs1 hlt
                go_wp2_with ((go_at_call 68; refine (writeByte_any (w.heap.size + 1) (w.heap.size + 1) _ _ _ T6.bld (by simp [Lib.byteCells]; omega) (by have := T6.size; omega)).mono ?_; rintro e w2 ⟨rfl, hbw, hbk⟩; have T7 := T6.write (d := chr (dg u j)) (chr_toNat hd) hbw hbk; clear hbw hbk cd c9 T6; have c9 := T7.scale))
                refine ⟨⟨j, _, by omega, rfl, HB2, T7⟩, by simp [intOf]⟩
              · have hjI : ((j : Int) == (s : Int)) = false := by rw [beq_eq_false_iff_ne]; omega
                clear hjs hjs1 hlt
                go_wp2_with ((go_at_call 68; refine (writeByte_any (w.heap.size + 1) (w.heap.size + 1) _ _ _ T6.bld (by simp [Lib.byteCells]; omega) (by have := T6.size; omega)).mono ?_; rintro e w2 ⟨rfl, hbw, hbk⟩; have T7 := T6.write (d := chr (dg u j)) (chr_toNat hd) hbw hbk; clear hbw hbk cd c9 T6; have c9 := T7.scale))
                refine ⟨⟨j, _, by omega, rfl, HB2, T7⟩, by simp [intOf]⟩
          · obtain rfl : i = 0 := by omega
            have HB2 : l1 = txt false u s := by have h1 := HB.out; simpa [txtBody] using h1
            subst HB2
            go_wp2_with (go_at_call 69; refine (Tryz.Builder_String (w.heap.size + 1) (w.heap.size + 1) _ _ T6.bld hne.out).mono ?_; rintro e w2 ⟨rfl, hbk⟩)
            go_ret
            exact ⟨rfl, T6.below.trans (hbk.mono (by omega))⟩
    | true =>
      have hz : (u == 0) = true := by simpa using hneg
      clear hneg
      go_wp2_with (go_at_call 56; refine (zero_any _ _ HU.out).mono ?_; rintro e w1 ⟨rfl, hbk⟩; have T1 := T0.kept hbk; clear hbk)
      clear hz c0 r0 bB zB
      have HT1 : Hid ([] ++ txtBody u s (txtLen u s) = txt true u s) := HT.out.symm
      go_cut [4] (fun s4 W => s4 = .int .i64 ((txtLen u s : Int) - 1) ∧ ∃ l, Hid (l ++ txtBody u s (txtLen u s) = txt true u s) ∧ TextW w W true u s l)
      case first =>
        have TD := T1.drew
        have r0 := T1.r0
        have c9 := T1.scale
        have w1 : IntKind.i64.wrap ((s : Int) + 1) = (s : Int) + 1 := IntWalk.i64_in _ (by omega)
        have hmx : max (dl u : Int) ((s : Int) + 1) = (txtLen u s : Int) := by unfold txtLen; omega
        have hl1 : txtLen u s ≤ 128 := by unfold txtLen; omega
        have w2 : IntKind.i64.wrap ((txtLen u s : Int) - 1) = (txtLen u s : Int) - 1 := IntWalk.i64_in _ (by omega)
        go_region_with (go_at_call 40; refine (size_any _ _ HU.out).mono ?_; rintro e w' ⟨rfl, hbk⟩; have T5 := TextW.kept (by assumption) hbk; clear hbk; have r0 := T5.r0; have c9 := T5.scale)
        all_goals (go_wp2_with fail; go_meet; exact ⟨rfl, _, HT1, by assumption⟩)
      case rest =>
        obtain ⟨rfl, l, HT3, T3⟩ := hcut
        clear T0 T1 HT HT1
        go_wp2
        have hl0 := txtLen_pos u s
        have hl1 : txtLen u s ≤ 128 := by unfold txtLen; omega
        go_loopw [4] (fun s4 W => ∃ (i : Nat) (l : List UInt8), i ≤ txtLen u s ∧ s4 = .int .i64 ((i : Int) - 1) ∧ Hid (l ++ txtBody u s i = txt true u s) ∧ TextW w W true u s l) (fun s4 _ => (intOf s4 + 1).toNat)
        case atStart => exact ⟨txtLen u s, l, Nat.le_refl _, rfl, HT3, T3⟩
        case round =>
          obtain ⟨i, l1, hi, rfl, HB, T6⟩ := hrel
          clear T3 HT3 l
          by_cases hlt : 1 ≤ i
          · obtain ⟨j, rfl⟩ : ∃ j, i = j + 1 := ⟨i - 1, by omega⟩
            have cj : ((j + 1 : Nat) : Int) - 1 = (j : Int) := by omega
            rw [cj]
            clear cj
            have hd := dg_lt u j
            have hj128 : (j : Int) < 128 := by omega
            have cd := T6.digit (i := j) (by omega)
            have hlen : l1.length ≤ 300 := by have h1 := HL.out; rw [← HB.out] at h1; simp at h1; omega
            by_cases hjs : j = s ∧ 0 < j
            · have HB2 : Hid (l1 ++ [chr (dg u j)] ++ [46] ++ txtBody u s j = txt true u s) := by
                have h1 := HB.out; rw [txtBody, if_pos hjs] at h1; unfold Hid; simpa using h1
              obtain ⟨hjs1, hj0⟩ := hjs
              have hjI : ((j : Int) == (s : Int)) = true := by simp [hjs1]
              clear hjs1 hlt
              have c9 := T6.scale
              have HJ1 : Hid True := trivial
              go_wp2_with (first | (have _t := HJ1; (go_at_call 68; refine (writeByte_any (w.heap.size + 1) (w.heap.size + 1) _ _ _ T6.bld (by simp [Lib.byteCells]; omega) (by have := T6.size; omega)).mono ?_; rintro e w2 ⟨rfl, hbw, hbk⟩; have T7 := T6.write (d := chr (dg u j)) (chr_toNat hd) hbw hbk; clear hbw hbk cd c9 T6; have c9 := T7.scale); clear HJ1) | (go_at_call 68; refine (writeByte_any (w.heap.size + 1) (w.heap.size + 1) _ _ _ T7.bld (by simp [Lib.byteCells]; omega) (by have := T7.size; omega)).mono ?_; rintro e w3 ⟨rfl, hbw, hbk⟩; have T8 := T7.write (d := 46) rfl hbw hbk; clear hbw hbk))
              refine ⟨⟨j, _, by omega, rfl, HB2, T8⟩, by simp [intOf]⟩
            · have HB2 : Hid (l1 ++ [chr (dg u j)] ++ txtBody u s j = txt true u s) := by
                have h1 := HB.out; rw [txtBody, if_neg hjs] at h1; unfold Hid; simpa using h1
              have c9 := T6.scale
              by_cases hjs1 : j = s
              · have hjI : ((j : Int) == (s : Int)) = true := by simp [hjs1]
                have hj0 : ¬ 0 < j := fun h => hjs ⟨hjs1, h⟩
                clear hjs hjs1 hlt
                go_wp2_with ((go_at_call 68; refine (writeByte_any (w.heap.size + 1) (w.heap.size + 1) _ _ _ T6.bld (by simp [Lib.byteCells]; omega) (by have := T6.size; omega)).mono ?_; rintro e w2 ⟨rfl, hbw, hbk⟩; have T7 := T6.write (d := chr (dg u j)) (chr_toNat hd) hbw hbk; clear hbw hbk cd c9 T6; have c9 := T7.scale))
                refine ⟨⟨j, _, by omega, rfl, HB2, T7⟩, by simp [intOf]⟩
              · have hjI : ((j : Int) == (s : Int)) = false := by rw [beq_eq_false_iff_ne]; omega
                clear hjs hjs1 hlt
                go_wp2_with ((go_at_call 68; refine (writeByte_any (w.heap.size + 1) (w.heap.size + 1) _ _ _ T6.bld (by simp [Lib.byteCells]; omega) (by have := T6.size; omega)).mono ?_; rintro e w2 ⟨rfl, hbw, hbk⟩; have T7 := T6.write (d := chr (dg u j)) (chr_toNat hd) hbw hbk; clear hbw hbk cd c9 T6; have c9 := T7.scale))
                refine ⟨⟨j, _, by omega, rfl, HB2, T7⟩, by simp [intOf]⟩
          · obtain rfl : i = 0 := by omega
            have HB2 : l1 = txt true u s := by have h1 := HB.out; simpa [txtBody] using h1
            subst HB2
            go_wp2_with (go_at_call 69; refine (Tryz.Builder_String (w.heap.size + 1) (w.heap.size + 1) _ _ T6.bld hne.out).mono ?_; rintro e w2 ⟨rfl, hbk⟩)
            go_ret
            exact ⟨rfl, T6.below.trans (hbk.mono (by omega))⟩
  · obtain ⟨rfl, hz⟩ : neg = true ∧ (u == 0) = false := by simpa using hneg
    clear hneg
    go_wp2_with (first | (go_at_call 56; refine (zero_any _ _ HU.out).mono ?_; rintro e w1 ⟨rfl, hbk⟩; have T2 := T0.kept hbk; clear hbk) | (go_at_call 68; refine (writeByte_any (w.heap.size + 1) (w.heap.size + 1) _ _ _ T2.bld (by simp [Lib.byteCells]) (by have := T2.size; omega)).mono ?_; rintro e w2 ⟨rfl, hbw, hbk⟩; have T1 := T2.write (d := 45) rfl hbw hbk; clear hbw hbk))
    clear hz c0 r0 bB zB
    have HT1 : Hid ([45] ++ txtBody u s (txtLen u s) = txt true u s) := HT.out.symm
    go_cut [4] (fun s4 W => s4 = .int .i64 ((txtLen u s : Int) - 1) ∧ ∃ l, Hid (l ++ txtBody u s (txtLen u s) = txt true u s) ∧ TextW w W true u s l)
    case first =>
      have TD := T1.drew
      have r0 := T1.r0
      have c9 := T1.scale
      have w1 : IntKind.i64.wrap ((s : Int) + 1) = (s : Int) + 1 := IntWalk.i64_in _ (by omega)
      have hmx : max (dl u : Int) ((s : Int) + 1) = (txtLen u s : Int) := by unfold txtLen; omega
      have hl1 : txtLen u s ≤ 128 := by unfold txtLen; omega
      have w2 : IntKind.i64.wrap ((txtLen u s : Int) - 1) = (txtLen u s : Int) - 1 := IntWalk.i64_in _ (by omega)
      go_region_with (go_at_call 40; refine (size_any _ _ HU.out).mono ?_; rintro e w' ⟨rfl, hbk⟩; have T5 := TextW.kept (by assumption) hbk; clear hbk; have r0 := T5.r0; have c9 := T5.scale)
      all_goals (go_wp2_with fail; go_meet; exact ⟨rfl, _, HT1, by assumption⟩)
    case rest =>
      obtain ⟨rfl, l, HT3, T3⟩ := hcut
      clear T0 T1 HT HT1
      go_wp2
      have hl0 := txtLen_pos u s
      have hl1 : txtLen u s ≤ 128 := by unfold txtLen; omega
      go_loopw [4] (fun s4 W => ∃ (i : Nat) (l : List UInt8), i ≤ txtLen u s ∧ s4 = .int .i64 ((i : Int) - 1) ∧ Hid (l ++ txtBody u s i = txt true u s) ∧ TextW w W true u s l) (fun s4 _ => (intOf s4 + 1).toNat)
      case atStart => exact ⟨txtLen u s, l, Nat.le_refl _, rfl, HT3, T3⟩
      case round =>
        obtain ⟨i, l1, hi, rfl, HB, T6⟩ := hrel
        clear T3 HT3 l
        by_cases hlt : 1 ≤ i
        · obtain ⟨j, rfl⟩ : ∃ j, i = j + 1 := ⟨i - 1, by omega⟩
          have cj : ((j + 1 : Nat) : Int) - 1 = (j : Int) := by omega
          rw [cj]
          clear cj
          have hd := dg_lt u j
          have hj128 : (j : Int) < 128 := by omega
          have cd := T6.digit (i := j) (by omega)
          have hlen : l1.length ≤ 300 := by have h1 := HL.out; rw [← HB.out] at h1; simp at h1; omega
          by_cases hjs : j = s ∧ 0 < j
          · have HB2 : Hid (l1 ++ [chr (dg u j)] ++ [46] ++ txtBody u s j = txt true u s) := by
              have h1 := HB.out; rw [txtBody, if_pos hjs] at h1; unfold Hid; simpa using h1
            obtain ⟨hjs1, hj0⟩ := hjs
            have hjI : ((j : Int) == (s : Int)) = true := by simp [hjs1]
            clear hjs1 hlt
            have c9 := T6.scale
            have HJ1 : Hid True := trivial
            go_wp2_with (first | (have _t := HJ1; (go_at_call 68; refine (writeByte_any (w.heap.size + 1) (w.heap.size + 1) _ _ _ T6.bld (by simp [Lib.byteCells]; omega) (by have := T6.size; omega)).mono ?_; rintro e w2 ⟨rfl, hbw, hbk⟩; have T7 := T6.write (d := chr (dg u j)) (chr_toNat hd) hbw hbk; clear hbw hbk cd c9 T6; have c9 := T7.scale); clear HJ1) | (go_at_call 68; refine (writeByte_any (w.heap.size + 1) (w.heap.size + 1) _ _ _ T7.bld (by simp [Lib.byteCells]; omega) (by have := T7.size; omega)).mono ?_; rintro e w3 ⟨rfl, hbw, hbk⟩; have T8 := T7.write (d := 46) rfl hbw hbk; clear hbw hbk))
            refine ⟨⟨j, _, by omega, rfl, HB2, T8⟩, by simp [intOf]⟩
          · have HB2 : Hid (l1 ++ [chr (dg u j)] ++ txtBody u s j = txt true u s) := by
              have h1 := HB.out; rw [txtBody, if_neg hjs] at h1; unfold Hid; simpa using h1
            have c9 := T6.scale
            by_cases hjs1 : j = s
            · have hjI : ((j : Int) == (s : Int)) = true := by simp [hjs1]
              have hj0 : ¬ 0 < j := fun h => hjs ⟨hjs1, h⟩
              clear hjs hjs1 hlt
              go_wp2_with ((go_at_call 68; refine (writeByte_any (w.heap.size + 1) (w.heap.size + 1) _ _ _ T6.bld (by simp [Lib.byteCells]; omega) (by have := T6.size; omega)).mono ?_; rintro e w2 ⟨rfl, hbw, hbk⟩; have T7 := T6.write (d := chr (dg u j)) (chr_toNat hd) hbw hbk; clear hbw hbk cd c9 T6; have c9 := T7.scale))
              refine ⟨⟨j, _, by omega, rfl, HB2, T7⟩, by simp [intOf]⟩
            · have hjI : ((j : Int) == (s : Int)) = false := by rw [beq_eq_false_iff_ne]; omega
              clear hjs hjs1 hlt
              go_wp2_with ((go_at_call 68; refine (writeByte_any (w.heap.size + 1) (w.heap.size + 1) _ _ _ T6.bld (by simp [Lib.byteCells]; omega) (by have := T6.size; omega)).mono ?_; rintro e w2 ⟨rfl, hbw, hbk⟩; have T7 := T6.write (d := chr (dg u j)) (chr_toNat hd) hbw hbk; clear hbw hbk cd c9 T6; have c9 := T7.scale))
              refine ⟨⟨j, _, by omega, rfl, HB2, T7⟩, by simp [intOf]⟩
        · obtain rfl : i = 0 := by omega
          have HB2 : l1 = txt true u s := by have h1 := HB.out; simpa [txtBody] using h1
          subst HB2
          go_wp2_with (go_at_call 69; refine (Tryz.Builder_String (w.heap.size + 1) (w.heap.size + 1) _ _ T6.bld hne.out).mono ?_; rintro e w2 ⟨rfl, hbk⟩)
          go_ret
          exact ⟨rfl, T6.below.trans (hbk.mono (by omega))⟩
end Go.Proofs.YtkcogoibaodbeaaGreatDoor
