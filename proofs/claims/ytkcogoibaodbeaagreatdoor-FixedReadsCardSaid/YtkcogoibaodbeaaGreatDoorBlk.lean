/- The blocks that a call has laid, in a row from the heap's end on: what they hold. No program in sight. -/
import Derived.Test.YtkcogoibaodbeaaGreatDoorRow
set_option linter.unusedVariables false
set_option linter.unusedSimpArgs false
namespace Go.Proofs.YtkcogoibaodbeaaGreatDoor
open Go.RowKit
structure Blk (w W : World) (cs : List (Array Value)) : Prop where
  row : ∀ i c, cs[i]? = some c → rowOf W (w.heap.size + i) = c
  free : ∀ i, i < cs.length → freeOf W (w.heap.size + i) = true
  below : Below w.heap.size w W
  size : w.heap.size + cs.length ≤ W.heap.size
theorem Blk.nil (w : World) : Blk w w [] := ⟨fun i c h => by simp at h, fun i h => by simp at h, Below.refl _ _, Nat.le_refl _⟩
theorem Blk.kept {w W W' : World} {cs : List (Array Value)} (T : Blk w W cs) (h : Below W.heap.size W W') : Blk w W' cs := by
  obtain ⟨hr, hf⟩ := rows_kept h
  have hz := h.size
  have hs := T.size
  refine ⟨fun i c hi => ?_, fun i hi => ?_, T.below.trans (h.mono (by omega)), by omega⟩
  · have : i < cs.length := (List.getElem?_eq_some_iff.1 hi).1
    exact (hr _ (by omega)).trans (T.row i c hi)
  · exact (hf _ (by omega)).trans (T.free i hi)
theorem Blk.more {w W : World} {cs : List (Array Value)} (T : Blk w W cs) (o : Obj) : Blk w (W.alloc o) cs := T.kept ((Below.refl _ _).alloc (Nat.le_refl _) _)
theorem Blk.lay {w W : World} {cs : List (Array Value)} (T : Blk w W cs) (h : W.heap.size = w.heap.size + cs.length) (c : Array Value) (t : TypeId) : Blk w (W.alloc (.cells c t)) (cs ++ [c]) := by
  have K := T.more (.cells c t)
  refine ⟨fun i d hi => ?_, fun i hi => ?_, K.below, by simp; omega⟩
  · rw [List.getElem?_append] at hi
    split at hi
    · exact K.row i d hi
    · rename_i hn
      have e : i - cs.length = 0 := by
        rcases Nat.eq_zero_or_pos (i - cs.length) with h | h
        · exact h
        · rw [List.getElem?_eq_none (by simp; omega)] at hi; cases hi
      rw [e] at hi
      simp at hi
      subst hi
      rw [show w.heap.size + i = W.heap.size by omega]
      exact rowOf_alloc_at W _ _ _ rfl
  · by_cases h' : i < cs.length
    · exact K.free i h'
    · rw [show w.heap.size + i = W.heap.size by simp at hi; omega]
      exact freeOf_alloc_at W _ _ _ rfl
theorem Blk.fr {w W : World} {cs : List (Array Value)} (T : Blk w W cs) (i : Nat) {c : Array Value} (h : cs[i]? = some c) : freeOf W (w.heap.size + i) = true := T.free i (List.getElem?_eq_some_iff.1 h).1
theorem Blk.lt {w W : World} {cs : List (Array Value)} (T : Blk w W cs) (i : Nat) {c : Array Value} (h : cs[i]? = some c) : w.heap.size + i < W.heap.size := by have := T.size; have := (List.getElem?_eq_some_iff.1 h).1; omega
theorem Blk.drew {w W : World} {cs : List (Array Value)} (T : Blk w W cs) : Blk w W.drew cs := ⟨T.row, T.free, T.below.drew, T.size⟩
theorem Blk.put {w W : World} {cs : List (Array Value)} (T : Blk w W cs) (i : Nat) {c : Array Value} (hi : cs[i]? = some c) (o : Nat) (D : Array Value) : Blk w (W.putRow (w.heap.size + i) o D) (cs.set i (splice c o D)) := by
  have hl : i < cs.length := (List.getElem?_eq_some_iff.1 hi).1
  refine ⟨fun j d hj => ?_, fun j hj => ?_, T.below.putRow (by omega) _ _, by rw [size_putRow, List.length_set]; exact T.size⟩
  · rw [List.getElem?_set] at hj
    split at hj
    · rename_i e; subst e
      cases hj
      rw [rowOf_putRow_same _ _ _ _ (T.free i hl), T.row i c hi]
    · rename_i e
      rw [rowOf_putRow_other _ _ _ _ _ (by omega)]; exact T.row j d hj
  · rw [freeOf_putRow]; exact T.free j (by rw [List.length_set] at hj; exact hj)
theorem Blk.set {w W : World} {cs : List (Array Value)} (T : Blk w W cs) (i : Nat) {c : Array Value} (hi : cs[i]? = some c) (o : Nat) (v : Value) : Blk w (W.setCell ⟨w.heap.size + i, o, none⟩ v) (cs.set i (c.setIfInBounds o v)) := by
  have hl : i < cs.length := (List.getElem?_eq_some_iff.1 hi).1
  refine ⟨fun j d hj => ?_, fun j hj => ?_, T.below.setCell (by simp only; omega) _, by rw [World.size_setCell, List.length_set]; exact T.size⟩
  · rw [List.getElem?_set] at hj
    split at hj
    · rename_i e; subst e
      cases hj
      rw [rowOf_setCell_same, T.row i c hi]
    · rename_i e
      rw [rowOf_setCell_other _ _ _ _ (by simp only [ne_eq]; omega)]; exact T.row j d hj
  · rw [freeOf_setCell]; exact T.free j (by rw [List.length_set] at hj; exact hj)
theorem Blk.cell {w W : World} {cs : List (Array Value)} (T : Blk w W cs) (i : Nat) {c : Array Value} (hi : cs[i]? = some c) (o : Nat) : W.cell? ⟨w.heap.size + i, o, none⟩ = c[o]? := by rw [cell_row, T.row i c hi]
theorem Blk.frozen {w W : World} {cs : List (Array Value)} (T : Blk w W cs) (i : Nat) {c : Array Value} (hi : cs[i]? = some c) (o : Nat) : W.frozen? ⟨w.heap.size + i, o, none⟩ = false := frozen_of_free (T.fr i hi)
theorem Blk.putOther {w W : World} {cs : List (Array Value)} (T : Blk w W cs) (p o : Nat) (D : Array Value) (h : w.heap.size + cs.length ≤ p) : Blk w (W.putRow p o D) cs := by
  refine ⟨fun j d hj => ?_, fun j hj => ?_, T.below.putRow (by omega) _ _, by rw [size_putRow]; exact T.size⟩
  · have hl : j < cs.length := (List.getElem?_eq_some_iff.1 hj).1
    rw [rowOf_putRow_other _ _ _ _ _ (by omega)]; exact T.row j d hj
  · rw [freeOf_putRow]; exact T.free j hj
theorem Blk.le {w W : World} {cs : List (Array Value)} (T : Blk w W cs) : w.heap.size + cs.length ≤ W.heap.size := T.size
end Go.Proofs.YtkcogoibaodbeaaGreatDoor
