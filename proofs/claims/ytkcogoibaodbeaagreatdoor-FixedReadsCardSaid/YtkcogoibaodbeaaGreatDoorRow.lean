/- Whole arrays and structs in memory: the cells of a block, a value read out of its middle, a value stored into its middle. No program in sight. -/
import Derived.WalkKit
import Derived.Laws.Rows
import Derived.Laws.Tables
import Derived.Laws.CopyRow
import Derived.Deep.MidRow
set_option linter.unusedVariables false
set_option linter.unusedSimpArgs false
namespace Go.Proofs.YtkcogoibaodbeaaGreatDoor
open Go.RowKit
variable {P : Program}
/-- The cells of a block. -/
def rowOf (w : World) (b : Nat) : Array Value := match w.heap[b]? with
  | some (.cells c _ _) => c
  | _ => #[]
/-- A block of cells, none of them frozen. -/
def freeOf (w : World) (b : Nat) : Bool := match w.heap[b]? with
  | some (.cells _ _ fr) => fr == (0, 0)
  | _ => false
/-- The cells c with D in them from o on. -/
def splice (c : Array Value) (o : Nat) (D : Array Value) : Array Value := (c.toList.take o ++ D.toList ++ c.toList.drop (o + D.size)).toArray
theorem splice_size (c : Array Value) (o : Nat) (D : Array Value) (h : o + D.size ≤ c.size) : (splice c o D).size = c.size := by
  simp [splice]; omega
theorem splice_get (c : Array Value) (o : Nat) (D : Array Value) (h : o + D.size ≤ c.size) (i : Nat) :
    (splice c o D)[i]? = if o ≤ i ∧ i < o + D.size then D[i - o]? else c[i]? := by
  simp only [splice, List.getElem?_toArray, List.append_assoc]
  by_cases h1 : i < o
  · rw [List.getElem?_append_left (by simp; omega), List.getElem?_take]
    simp [h1, show ¬ o ≤ i by omega]
  · rw [List.getElem?_append_right (by simp; omega)]
    have e : (c.toList.take o).length = o := by simp; omega
    rw [e]
    by_cases h2 : i < o + D.size
    · rw [List.getElem?_append_left (by simp; omega)]
      simp [show o ≤ i by omega, h2]
    · rw [List.getElem?_append_right (by simp; omega)]
      simp only [Array.length_toList, List.getElem?_drop, Array.getElem?_toList]
      rw [if_neg (by omega)]
      congr 1; omega
/-- A value's cells stored into a block from o on. -/
def _root_.Go.World.putRow (w : World) (b o : Nat) (D : Array Value) : World :=
  { w with heap := w.heap.modify b fun
      | .cells c e fr => .cells (splice c o D) e fr
      | x => x }
theorem heap_putRow_same {w : World} {b : Nat} {c : Array Value} {t : TypeId} {fr : Nat × Nat} (h : w.heap[b]? = some (.cells c t fr)) (o : Nat) (D : Array Value) :
    (w.putRow b o D).heap[b]? = some (.cells (splice c o D) t fr) := by
  simp [World.putRow, Array.getElem?_modify, h]
theorem heap_putRow_other (w : World) (b o : Nat) (D : Array Value) (k : Nat) (h : b ≠ k) : (w.putRow b o D).heap[k]? = w.heap[k]? := by
  simp [World.putRow, Array.getElem?_modify, h]
@[simp] theorem size_putRow (w : World) (b o : Nat) (D : Array Value) : (w.putRow b o D).heap.size = w.heap.size := by simp [World.putRow]
theorem of_freeOf {w : World} {b : Nat} (h : freeOf w b = true) : ∃ t, w.heap[b]? = some (.cells (rowOf w b) t (0, 0)) := by
  unfold freeOf at h
  unfold rowOf
  split at h
  · rename_i c t fr hh
    obtain rfl : fr = (0, 0) := by simpa using h
    exact ⟨t, by rw [hh]⟩
  · exact absurd h (by decide)
theorem heap_alloc_new' (w : World) (o : Obj) (n : Nat) (h : n = w.heap.size) : (w.alloc o).heap[n]? = some o := by subst h; exact heap_alloc_new w o
theorem rowOf_of {w : World} {b : Nat} {c : Array Value} {t : TypeId} {fr : Nat × Nat} (h : w.heap[b]? = some (.cells c t fr)) : rowOf w b = c := by
  unfold rowOf; rw [h]
theorem freeOf_of {w : World} {b : Nat} {c : Array Value} {t : TypeId} (h : w.heap[b]? = some (.cells c t (0, 0))) : freeOf w b = true := by
  unfold freeOf; rw [h]; rfl
/-! The rules by which the cells of a block are found in a world that is written out. -/
theorem rowOf_alloc_at (w : World) (c : Array Value) (t : TypeId) (n : Nat) (hn : n = w.heap.size) : rowOf (w.alloc (.cells c t)) n = c := by
  subst hn; exact rowOf_of (heap_alloc_new w _)
theorem freeOf_alloc_at (w : World) (c : Array Value) (t : TypeId) (n : Nat) (hn : n = w.heap.size) : freeOf (w.alloc (.cells c t)) n = true := by
  subst hn; exact freeOf_of (heap_alloc_new w _)
theorem rowOf_alloc_past (w : World) (x : Obj) (n : Nat) (hn : n < w.heap.size) : rowOf (w.alloc x) n = rowOf w n := by
  unfold rowOf; rw [Below.heap_alloc w x n hn]
theorem freeOf_alloc_past (w : World) (x : Obj) (n : Nat) (hn : n < w.heap.size) : freeOf (w.alloc x) n = freeOf w n := by
  unfold freeOf; rw [Below.heap_alloc w x n hn]
theorem rowOf_drew (w : World) (n : Nat) : rowOf w.drew n = rowOf w n := rfl
theorem freeOf_drew (w : World) (n : Nat) : freeOf w.drew n = freeOf w n := rfl
theorem rowOf_setCell_same (w : World) (b i : Nat) (v : Value) : rowOf (w.setCell ⟨b, i, none⟩ v) b = (rowOf w b).setIfInBounds i v := by
  unfold rowOf World.setCell
  simp only [Array.getElem?_modify, if_true]
  cases h : w.heap[b]? with
  | none => simp
  | some x => cases x <;> simp
theorem rowOf_setCell_other (w : World) (a : Addr) (b : Nat) (v : Value) (h : b ≠ a.block) : rowOf (w.setCell a v) b = rowOf w b := by
  unfold rowOf; rw [heap_setCell_other w a b v h]
theorem freeOf_setCell (w : World) (a : Addr) (b : Nat) (v : Value) : freeOf (w.setCell a v) b = freeOf w b := by
  unfold freeOf World.setCell
  simp only [Array.getElem?_modify]
  by_cases h : a.block = b
  · subst h
    simp only [if_true]
    cases h : w.heap[a.block]? with
    | none => simp
    | some x => cases x <;> simp
  · simp [h]
theorem rowOf_putRow_same (w : World) (b o : Nat) (D : Array Value) (h : freeOf w b = true) : rowOf (w.putRow b o D) b = splice (rowOf w b) o D := by
  obtain ⟨t, hh⟩ := of_freeOf h
  exact rowOf_of (heap_putRow_same hh o D)
theorem rowOf_putRow_other (w : World) (b o : Nat) (D : Array Value) (k : Nat) (h : k ≠ b) : rowOf (w.putRow b o D) k = rowOf w k := by
  unfold rowOf; rw [heap_putRow_other w b o D k (fun e => h e.symm)]
theorem freeOf_putRow (w : World) (b o : Nat) (D : Array Value) (k : Nat) : freeOf (w.putRow b o D) k = freeOf w k := by
  by_cases h : b = k
  · subst h
    unfold freeOf World.putRow
    simp only [Array.getElem?_modify, if_true]
    cases h : w.heap[b]? with
    | none => simp
    | some x => cases x <;> simp
  · unfold freeOf; rw [heap_putRow_other w b o D k h]
theorem putRow_alloc_at (w : World) (c : Array Value) (t : TypeId) (n o : Nat) (D : Array Value) (hn : n = w.heap.size) :
    (w.alloc (.cells c t)).putRow n o D = w.alloc (.cells (splice c o D) t) := by
  subst hn
  unfold World.putRow World.alloc
  congr 1
  apply Array.ext
  · simp
  · intro i h1 h2
    simp only [Array.getElem_modify, Array.getElem_push]
    by_cases h : i < w.heap.size
    · simp [h, show w.heap.size ≠ i by omega]
    · have : i = w.heap.size := by simp at h2; omega
      subst this; simp
theorem putRow_alloc_past (w : World) (x : Obj) (n o : Nat) (D : Array Value) (hn : n < w.heap.size) :
    (w.alloc x).putRow n o D = (w.putRow n o D).alloc x := by
  unfold World.putRow World.alloc
  congr 1
  apply Array.ext
  · simp
  · intro i h1 h2
    simp only [Array.getElem_modify, Array.getElem_push]
    simp only [Array.size_modify]
    by_cases h : i < w.heap.size
    · simp only [h, dif_pos, Array.getElem_modify]
    · simp [h, show n ≠ i by omega]
theorem putRow_drew (w : World) (b o : Nat) (D : Array Value) : w.drew.putRow b o D = (w.putRow b o D).drew := rfl
theorem cell_row {w : World} {b i : Nat} : w.cell? ⟨b, i, none⟩ = (rowOf w b)[i]? := by
  unfold World.cell? rowOf
  cases h : w.heap[b]? with
  | none => simp
  | some x => cases x <;> simp
theorem cell_putRow (w : World) (b o k i : Nat) (D : Array Value) : (w.putRow b o D).cell? ⟨k, i, none⟩ = (rowOf (w.putRow b o D) k)[i]? := cell_row
theorem frozen_of_free {w : World} {b i : Nat} (h : freeOf w b = true) : w.frozen? ⟨b, i, none⟩ = false := by
  obtain ⟨t, hh⟩ := of_freeOf h
  exact frozen_of_row w b i _ t hh
theorem frozen_putRow (w : World) (b o : Nat) (D : Array Value) (a : Addr) : (w.putRow b o D).frozen? a = w.frozen? a := by
  unfold World.frozen? World.putRow
  simp only [Array.getElem?_modify]
  by_cases h : b = a.block
  · subst h
    simp only [if_true]
    cases h : w.heap[a.block]? with
    | none => simp
    | some x => cases x <;> simp
  · simp [h]
theorem _root_.Go.RowKit.Below.putRow {B : Nat} {a w : World} (h : Below B a w) {b : Nat} (hb : B ≤ b) (o : Nat) (D : Array Value) : Below B a (w.putRow b o D) :=
  h.trans ⟨rfl, rfl, rfl, by simp, fun k hk => heap_putRow_other w b o D k (by omega)⟩
/-- Behind a call that turned nothing below B: the blocks below B are as they were. -/
theorem rows_kept {B : Nat} {w w' : World} (h : Below B w w') : (∀ b, b < B → rowOf w' b = rowOf w b) ∧ (∀ b, b < B → freeOf w' b = freeOf w b) :=
  ⟨fun b hb => by unfold rowOf; rw [h.block b hb], fun b hb => by unfold freeOf; rw [h.block b hb]⟩
/-! The operations. -/
/-- A type whose values are n cells, read and written together. -/
def RowTy (P : Program) (t : TypeId) (n : Nat) : Prop := (match P.underlying t with | some d => d.isRow | none => false) = true ∧ (P.info? t).map (·.size) = some n
/-- Instr.loadAt and Instr.storeAt at such a type, under names of their own, so that the walk does not open them cell by cell. -/
def ldA (t : TypeId) (v : Value) : Sem Value := Instr.loadAt t v
def stA (t : TypeId) (v x : Value) : Sem Unit := Instr.storeAt t v x
theorem run_ldA {t n : Nat} (h : RowTy P t n) (w : World) (b o : Nat) (hs : o + n ≤ (rowOf w b).size) :
    Sem.run P (ldA t (.pointer (some ⟨b, o, none⟩))) w = .ok (.agg ((rowOf w b).extract o (o + n))) w := by
  obtain ⟨h1, h2⟩ := h
  cases hu : P.underlying t with
  | none => rw [hu] at h1; exact absurd h1 (by decide)
  | some d =>
    rw [hu] at h1
    have hl : ((rowOf w b).extract o (o + n)).toList.length = n := by simp; omega
    have := run_loadAt_mid (P := P) w b o t ((rowOf w b).extract o (o + n)).toList d (fun j v hv => by
      rw [cell_row]
      simp only [Array.getElem?_toList, Array.getElem?_extract] at hv
      split at hv
      · exact hv
      · exact absurd hv (by simp)) hu h1 (by rw [hl]; exact h2)
    simpa only [ldA, Array.toArray_toList] using this
/-- What is stored: each is one cell. -/
def oneCells (D : Array Value) : Bool := D.all (·.oneCell')
theorem setCells_eq_putRow (w : World) (b o : Nat) (D : Array Value) (hf : freeOf w b = true) (hs : o + D.size ≤ (rowOf w b).size) : w.setCells b o D.toList = w.putRow b o D := by
  obtain ⟨t, hh⟩ := of_freeOf hf
  have key : ∀ (vs : List Value) (o : Nat) (w : World) (c : Array Value), w.heap[b]? = some (.cells c t (0, 0)) → o + vs.length ≤ c.size → w.setCells b o vs = w.putRow b o vs.toArray := by
    intro vs
    induction vs with
    | nil =>
      intro o w c hc hl
      rw [World.setCells]
      unfold World.putRow
      cases w with
      | mk heap tape drawn os output =>
        congr 1
        apply Array.ext
        · simp
        · intro i h1 h2
          simp only [Array.getElem_modify]
          split
          · rename_i e; subst e
            have := (Array.getElem?_eq_some_iff.1 hc).2
            simp only at this
            simp [this, splice]
          · rfl
    | cons v vs ih =>
      intro o w c hc hl
      rw [World.setCells, ih (o + 1) _ (c.setIfInBounds o v) (heap_setCell_same w b o c t v hc) (by simp at hl ⊢; omega)]
      unfold World.putRow World.setCell
      simp only [Option.isSome_none, Bool.false_eq_true, if_false]
      congr 1
      apply Array.ext
      · simp
      · intro i h1 h2
        simp only [Array.getElem_modify]
        split
        · rename_i e; subst e
          have := (Array.getElem?_eq_some_iff.1 hc).2
          rw [this]
          simp only
          congr 1
          apply Array.ext_getElem?
          intro k
          have hl' : o + 1 + vs.length ≤ c.size := by simp at hl; omega
          rw [splice_get _ _ _ (by simpa using hl'), splice_get _ _ _ (by simp at hl ⊢; omega)]
          simp only [Array.getElem?_setIfInBounds, List.size_toArray, List.length_cons, List.getElem?_toArray]
          by_cases hk : k = o
          · subst hk
            rw [if_neg (by omega), if_pos (by omega)]
            simp [show k < c.size by omega]
          · by_cases hk2 : o + 1 ≤ k ∧ k < o + 1 + vs.length
            · rw [if_pos hk2, if_pos (by omega), show k - o = (k - (o + 1)) + 1 by omega]; simp
            · rw [if_neg hk2, if_neg (show ¬ o = k from fun e => hk e.symm), if_neg (by omega)]
        · rfl
  have := key D.toList o w _ hh (by simpa using hs)
  simpa using this
theorem run_stA {t n : Nat} (h : RowTy P t n) (w : World) (b o : Nat) (D : Array Value) (hf : freeOf w b = true) (hn : D.size = n) (hs : o + n ≤ (rowOf w b).size) (h1 : oneCells D = true) :
    Sem.run P (stA t (.pointer (some ⟨b, o, none⟩)) (.agg D)) w = .ok () (w.putRow b o D) := by
  have := run_storeAt_mid (P := P) w b o t D (fun j hj => ⟨by rw [cell_row, Array.getElem?_eq_getElem (by omega)]; rfl, frozen_of_free hf⟩) (by rw [hn]; exact h.2) h1
  rw [setCells_eq_putRow w b o D hf (by omega)] at this
  exact this
theorem loadVar_run {t n : Nat} (h : RowTy P t n) (w : World) (b o : Nat) (hs : o + n ≤ (rowOf w b).size) :
    Sem.run P (loadVar t ⟨b, o, none⟩) w = .ok (.agg ((rowOf w b).extract o (o + n))) w := by
  have := run_ldA h w b o hs
  simpa [ldA, Instr.loadAt, Instr.sureAddr] using this
/-- copy of a part of one block into another (elements of one cell). -/
theorem run_copyA {dT sT ty elem : TypeId} (hu : P.underlying dT = some (.slice elem)) (he : (P.info? elem).map (·.size) = some 1) (w : World) (b o dLen dCap b' o' sLen sCap : Nat)
    (hf : freeOf w b = true) (hd : o + Nat.min sLen dLen ≤ (rowOf w b).size) (hs : o' + Nat.min sLen dLen ≤ (rowOf w b').size) (h1 : oneCells (rowOf w b') = true) :
    Sem.run P (Builtin.copy_ #[dT, sT] ty #[.slice (some ⟨b, o, none⟩) dLen dCap, .slice (some ⟨b', o', none⟩) sLen sCap]) w =
      .ok (goInt (Nat.min sLen dLen)) (w.putRow b o ((rowOf w b').extract o' (o' + Nat.min sLen dLen))) := by
  obtain ⟨t, hh⟩ := of_freeOf hf
  have hsz : ((rowOf w b').extract o' (o' + Nat.min sLen dLen)).size = Nat.min sLen dLen := by simp; omega
  have h1' : ∀ v ∈ ((rowOf w b').extract o' (o' + Nat.min sLen dLen)).toList, v.oneCell' = true := fun v hv => by
    unfold oneCells at h1
    rw [Array.all_eq_true_iff_forall_mem] at h1
    refine h1 v ?_
    rw [Array.mem_toList_iff] at hv
    obtain ⟨i, hi, rfl⟩ := Array.mem_iff_getElem.1 hv
    rw [Array.getElem_extract]
    exact Array.getElem_mem _
  rw [run_copy_row (P := P) w dT sT ty elem b o dLen dCap ⟨b', o', none⟩ sLen sCap (rowOf w b) t ((rowOf w b').extract o' (o' + Nat.min sLen dLen)).toList hu he hh (by rw [Array.length_toList, hsz]) (fun j v hv => by
    rw [Addr.add_mid, cell_row]
    simp only [Array.getElem?_toList, Array.getElem?_extract] at hv
    split at hv
    · exact hv
    · exact absurd hv (by simp)) (by rw [Array.length_toList, hsz]; exact hd) h1']
  rw [Array.length_toList, hsz]
  congr 1
  rw [show (rowOf w b).toList.take o ++ ((rowOf w b').extract o' (o' + Nat.min sLen dLen)).toList ++ (rowOf w b).toList.drop (o + Nat.min sLen dLen) =
    (splice (rowOf w b) o ((rowOf w b').extract o' (o' + Nat.min sLen dLen))).toList by unfold splice; rw [hsz]]
  rw [Array.toArray_toList]
  unfold World.setRow World.putRow
  congr 1
  apply Array.ext
  · simp
  · intro i h1 h2
    simp only [Array.getElem_modify]
    split
    · rename_i e; subst e
      have := (Array.getElem?_eq_some_iff.1 hh).2
      rw [this]
    · rfl
/-- The end of a function whose one result is such a value. -/
theorem ret_row {fn : Func} {R : Ending → World → Prop} {p t n : Nat} (hr : fn.results = #[.cell p t]) (h : RowTy P t n) {tmps : Array Value} {w : World} {b : Nat} {C : Array Value}
    (hp : tmps.getD p undef = .pointer (some ⟨b, 0, none⟩)) (hC : rowOf w b = C) (hn : C.size = n) (hR : R (.returned (.agg C)) w) :
    bodyPost P fn R .ret { tmps := tmps, defers := [] } w := by
  refine bodyPost_ret (v := .agg C) ?_ rfl hR
  have hp' : tmps[p]?.getD undef = .pointer (some ⟨b, 0, none⟩) := by simpa using hp
  have hl := loadVar_run h w b 0 (by rw [hC, hn]; omega)
  rw [hC, Array.extract_eq_self_of_le (by omega)] at hl
  simp [results, hr, hp', asAddr, hl]
/-- .. whose two results are such values. -/
theorem ret_row2 {fn : Func} {R : Ending → World → Prop} {p t n p' t' n' : Nat} (hr : fn.results = #[.cell p t, .cell p' t']) (h : RowTy P t n) (h' : RowTy P t' n') {tmps : Array Value} {w : World} {b b' : Nat} {C C' : Array Value}
    (hp : tmps.getD p undef = .pointer (some ⟨b, 0, none⟩)) (hp2 : tmps.getD p' undef = .pointer (some ⟨b', 0, none⟩)) (hC : rowOf w b = C) (hC' : rowOf w b' = C') (hn : C.size = n) (hn' : C'.size = n') (hR : R (.returned (.tuple #[.agg C, .agg C'])) w) :
    bodyPost P fn R .ret { tmps := tmps, defers := [] } w := by
  refine bodyPost_ret (v := .tuple #[.agg C, .agg C']) ?_ rfl hR
  have hp' : tmps[p]?.getD undef = .pointer (some ⟨b, 0, none⟩) := by simpa using hp
  have hp2' : tmps[p']?.getD undef = .pointer (some ⟨b', 0, none⟩) := by simpa using hp2
  have hl := loadVar_run h w b 0 (by rw [hC, hn]; omega)
  have hl' := loadVar_run h' w b' 0 (by rw [hC', hn']; omega)
  rw [hC, Array.extract_eq_self_of_le (by omega)] at hl
  rw [hC', Array.extract_eq_self_of_le (by omega)] at hl'
  simp [results, hr, hp', hp2', asAddr, hl, hl']
/-- .. whose first result is such a value, the second a slot. -/
theorem ret_row_tmp {fn : Func} {R : Ending → World → Prop} {p t n q : Nat} (hr : fn.results = #[.cell p t, .tmp q]) (h : RowTy P t n) {tmps : Array Value} {w : World} {b : Nat} {C : Array Value} {v : Value}
    (hp : tmps.getD p undef = .pointer (some ⟨b, 0, none⟩)) (hq : tmps.getD q undef = v) (hC : rowOf w b = C) (hn : C.size = n) (hR : R (.returned (.tuple #[.agg C, v])) w) :
    bodyPost P fn R .ret { tmps := tmps, defers := [] } w := by
  refine bodyPost_ret (v := .tuple #[.agg C, v]) ?_ rfl hR
  have hp' : tmps[p]?.getD undef = .pointer (some ⟨b, 0, none⟩) := by simpa using hp
  have hq' : tmps[q]?.getD undef = v := by simpa using hq
  have hl := loadVar_run h w b 0 (by rw [hC, hn]; omega)
  rw [hC, Array.extract_eq_self_of_le (by omega)] at hl
  simp [results, hr, hp', hq', asAddr, hl]
end Go.Proofs.YtkcogoibaodbeaaGreatDoor
