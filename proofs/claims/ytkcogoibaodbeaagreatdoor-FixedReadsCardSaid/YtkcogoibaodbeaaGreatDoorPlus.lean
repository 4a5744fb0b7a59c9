/- wide.plus: the sum of two numbers. -/
import Derived.Test.YtkcogoibaodbeaaGreatDoorCmp
set_option linter.unusedVariables false
set_option linter.unusedSimpArgs false
namespace Go.Proofs.YtkcogoibaodbeaaGreatDoor
open Go.RowKit Go.Shelf
attribute [local go_sem] Oper.semAt_some
def addStep (a b : Nat) (s : Nat × Array Value) (i : Nat) : Nat × Array Value :=
  ((s.1 + (dg a i + dg b i)) / 10, s.2.setIfInBounds i (.int .u8 (((s.1 + (dg a i + dg b i)) % 10 : Nat) : Int)))
theorem add_carry (a b : Nat) (pre : List (Fin 128)) : (pre.foldl (fun s x => addStep a b s x.val) (0, wcells 0)).1 ≤ 1 ∧ (pre.foldl (fun s x => addStep a b s x.val) (0, wcells 0)).2.size = 128 := by
  suffices ∀ s : Nat × Array Value, s.1 ≤ 1 → s.2.size = 128 → (pre.foldl (fun s x => addStep a b s x.val) s).1 ≤ 1 ∧ (pre.foldl (fun s x => addStep a b s x.val) s).2.size = 128 from this _ (by simp) (by simp)
  induction pre with
  | nil => intro s h1 h2; exact ⟨h1, h2⟩
  | cons x pre ih =>
    intro s h1 h2
    refine ih _ ?_ ?_
    · have := dg_lt a x.val
      have := dg_lt b x.val
      simp only [addStep]; omega
    · simp [addStep, h2]
/-- The cells below the place k are those of n, the others of 0. -/
def upTo (n k : Nat) (o : Array Value) : Prop := ∀ i, i < 128 → o[i]? = some (.int .u8 (if i < k then dg n i else 0))
theorem upTo_zero (n : Nat) : upTo n 0 (wcells 0) := fun i hi => by rw [wcells_get 0 i hi, dg_zero_left]; simp
theorem upTo_succ {n k : Nat} {o : Array Value} (h : upTo n k o) (hs : o.size = 128) (hk : k < 128) {v : Int} (hv : v = dg n k) : upTo n (k + 1) (o.setIfInBounds k (.int .u8 v)) := fun i hi => by
  rw [Array.getElem?_setIfInBounds]
  by_cases e : k = i
  · subst e
    rw [if_pos rfl, if_pos (by omega), if_pos (by omega), hv]
  · rw [if_neg e, h i hi]
    by_cases h1 : i < k
    · rw [if_pos h1, if_pos (by omega)]
    · rw [if_neg h1, if_neg (by omega)]
theorem upTo_all {n : Nat} {o : Array Value} (h : upTo n 128 o) (hs : o.size = 128) : o = wcells n := by
  apply Array.ext_getElem?
  intro i
  by_cases hi : i < 128
  · rw [h i hi, wcells_get n i hi, if_pos hi]
  · rw [Array.getElem?_eq_none (by omega), Array.getElem?_eq_none (by simp; omega)]
theorem add_digit (a b k s : Nat) (h1 : a % 10 ^ k + b % 10 ^ k = (a + b) % 10 ^ k + 10 ^ k * s) :
    (dg a k + dg b k + s) % 10 = dg (a + b) k ∧ a % 10 ^ (k + 1) + b % 10 ^ (k + 1) = (a + b) % 10 ^ (k + 1) + 10 ^ (k + 1) * ((dg a k + dg b k + s) / 10) := by
  have hp : 0 < 10 ^ k := Nat.pow_pos (by decide)
  have e : (a + b) / 10 ^ k = a / 10 ^ k + b / 10 ^ k + s := by
    have ea := Nat.div_add_mod a (10 ^ k)
    have eb := Nat.div_add_mod b (10 ^ k)
    have es := Nat.div_add_mod (a + b) (10 ^ k)
    have : 10 ^ k * ((a + b) / 10 ^ k) = 10 ^ k * (a / 10 ^ k + b / 10 ^ k + s) := by
      rw [Nat.mul_add, Nat.mul_add]; omega
    exact Nat.eq_of_mul_eq_mul_left hp this
  have e10 : (dg a k + dg b k + s) % 10 = dg (a + b) k := by
    unfold dg; rw [e]; omega
  refine ⟨e10, ?_⟩
  rw [modp_succ, modp_succ, modp_succ, ← e10, Nat.pow_succ]
  have hm := Nat.div_add_mod (dg a k + dg b k + s) 10
  generalize (dg a k + dg b k + s) / 10 = q at *
  generalize (dg a k + dg b k + s) % 10 = r at *
  have : 10 ^ k * (10 * q + r) = 10 ^ k * (dg a k + dg b k + s) := by rw [hm]
  rw [Nat.mul_add, Nat.mul_add, Nat.mul_add] at this
  have e2 : 10 ^ k * 10 * q = 10 ^ k * (10 * q) := by rw [Nat.mul_assoc]
  omega
theorem add_fold (a b : Nat) : (places.foldl (fun s x => addStep a b s x.val) (0, wcells 0)).2 = wcells (a + b) := by
  have h := places_fold (addStep a b) (0, wcells 0) (fun k s => a % 10 ^ k + b % 10 ^ k = (a + b) % 10 ^ k + 10 ^ k * s.1 ∧ upTo (a + b) k s.2 ∧ s.2.size = 128)
    ⟨by simp [Nat.mod_one], upTo_zero _, by simp⟩ (by
    rintro k s hk ⟨h1, h2, h3⟩
    obtain ⟨hd1, hd2⟩ := add_digit a b k s.1 h1
    refine ⟨?_, upTo_succ h2 h3 hk ?_, by simp [addStep, h3]⟩
    · simp only [addStep]
      rw [show s.1 + (dg a k + dg b k) = dg a k + dg b k + s.1 by omega]; exact hd2
    · rw [show s.1 + (dg a k + dg b k) = dg a k + dg b k + s.1 by omega, hd1])
  exact upTo_all h.2.1 h.2.2
set_option maxRecDepth 100000 in
set_option maxHeartbeats 2000000 in
theorem plus_any (a b : Nat) (w : World) :
    Calls Tryz.prog 75 #[.agg (wcells a), .agg (wcells b)] w fun e w' => e = .returned (.agg (wcells (a + b))) ∧ Below w.heap.size w w' := by
  have HC := Lib.hid (add_fold a b)
  refine (callsIn_wide (n := 3)).1 ?_
  refine callsIn_of_wp_marks Tryz.func75 rfl trivial ?_ rfl
  simp only [Tryz.ntmps75, List.size_toArray, List.length_cons, List.length_nil, Nat.reduceAdd, Nat.reduceSub, Array.replicate_succ, Array.replicate_zero, List.push_toArray, List.append_toArray, List.nil_append, List.cons_append]
  gi_wp2_with (refine ⟨trivial, ?_⟩; gi_at_call 88; refine (pairs_in Fence.wide _ trivial rfl a b _).mono ?_; rintro e w' ⟨rfl, rfl⟩)
  obtain ⟨W0, hW0⟩ : ∃ W0, ((((((w.alloc (.cells (wcells a) 41)).alloc (.cells (wcells b) 41)).alloc (.cells (wcells 0) 41)).alloc (.cells (wcells 0) 41)).alloc (.cells #[.int .i64 0] 3)).alloc (.cells (wcells a) 41)).alloc (.cells (wcells b) 41) = W0 := ⟨_, rfl⟩
  have hsz : W0.heap.size = w.heap.size + 7 := by rw [← hW0]; simp
  have hB0 : Below w.heap.size w W0 := by
    rw [← hW0]
    exact (((((((Below.refl _ w).alloc (Nat.le_refl _) _).alloc (by simp) _).alloc (by simp only [World.size_alloc]; omega) _).alloc (by simp only [World.size_alloc]; omega) _).alloc (by simp only [World.size_alloc]; omega) _).alloc (by simp only [World.size_alloc]; omega) _).alloc (by simp only [World.size_alloc]; omega) _
  have h2 : W0.heap[w.heap.size + 1 + 1]? = some (.cells (wcells 0) 41 (0, 0)) := by
    rw [← hW0, Below.heap_alloc _ _ _ (by simp), Below.heap_alloc _ _ _ (by simp), Below.heap_alloc _ _ _ (by simp), Below.heap_alloc _ _ _ (by simp)]
    exact heap_alloc_new' _ _ _ (by simp)
  have h3 : W0.heap[w.heap.size + 1 + 1 + 1]? = some (.cells (wcells 0) 41 (0, 0)) := by
    rw [← hW0, Below.heap_alloc _ _ _ (by simp), Below.heap_alloc _ _ _ (by simp), Below.heap_alloc _ _ _ (by simp)]
    exact heap_alloc_new' _ _ _ (by simp)
  have h4 : W0.heap[w.heap.size + 1 + 1 + 1 + 1]? = some (.cells #[.int .i64 0] 3 (0, 0)) := by
    rw [← hW0, Below.heap_alloc _ _ _ (by simp), Below.heap_alloc _ _ _ (by simp)]
    exact heap_alloc_new' _ _ _ (by simp)
  have hca : W0.heap[w.heap.size + 1 + 1 + 1 + 1 + 1]? = some (.cells (wcells a) 41 (0, 0)) := by
    rw [← hW0, Below.heap_alloc _ _ _ (by simp)]
    exact heap_alloc_new' _ _ _ (by simp)
  have hcb : W0.heap[w.heap.size + 1 + 1 + 1 + 1 + 1 + 1]? = some (.cells (wcells b) 41 (0, 0)) := by
    rw [← hW0]; exact heap_alloc_new' _ _ _ (by simp)
  rw [hW0]
  clear hW0
  refine wpIn_rangeFunc_ownH rfl (by omega) (gf := 98) (lb := #[.pointer (some ⟨w.heap.size + 1 + 1 + 1 + 1 + 1, 0, none⟩), .pointer (some ⟨w.heap.size + 1 + 1 + 1 + 1 + 1 + 1, 0, none⟩)]) rfl trivial (enters_of Tryz.func98 (by kernel_rfl) rfl)
    (pairs_stops _ (by omega) (w.heap.size + 1 + 1 + 1 + 1 + 1) (w.heap.size + 1 + 1 + 1 + 1 + 1 + 1) a b W0 (by omega) (by omega)
      (fun i hi => by rw [cell_of_row _ _ _ _ _ _ hca, wcells_get a i hi]) (fun i hi => by rw [cell_of_row _ _ _ _ _ _ hcb, wcells_get b i hi])) KeepsTwo.trans (keepsTwo_put (by omega) (by omega)) (Below.refl _ _) (fun _ => rfl)
    (fun pre W => (W.heap[w.heap.size + 1 + 1]? = some (.cells (wcells 0) 41 (0, 0)) ∧ W.heap[w.heap.size + 1 + 1 + 1]? = some (.cells (pre.foldl (fun s x => addStep a b s x.val) (0, wcells 0)).2 41 (0, 0))) ∧
      (W.heap[w.heap.size + 1 + 1 + 1 + 1]? = some (.cells #[.int .i64 (pre.foldl (fun s x => addStep a b s x.val) (0, wcells 0)).1] 3 (0, 0)) ∧ (Below w.heap.size w W ∧ W0.heap.size ≤ W.heap.size)))
    (fun _ _ _ => False)
    (OwnFrom.and (OwnFrom.and (own_block _ _ _ (fun _ => wcells 0)) (own_block _ _ _ _)) (OwnFrom.and (own_block _ _ _ _) (OwnFrom.and (ownFrom_below (Nat.le_refl _) (by omega)) (ownFrom_size _ _))))
    (fun _ _ _ _ _ hs _ _ => hs)
    ⟨⟨h2, h3⟩, h4, hB0, Nat.le_refl _⟩
    (fun x a' W => ∃ Bx, W0.heap.size ≤ Bx ∧ W.heap[Bx]? = some (.cells #[.int .i64 (dg a x.val), .int .i64 (dg b x.val)] 108 (0, 0)) ∧ a' = { tmps := #[.agg (wcells a), .agg (wcells b), .pointer (some ⟨w.heap.size, 0, none⟩), .pointer (some ⟨w.heap.size + 1, 0, none⟩), .pointer (some ⟨w.heap.size + 1 + 1, 0, none⟩), .pointer (some ⟨w.heap.size + 1 + 1 + 1, 0, none⟩), .pointer (some ⟨w.heap.size + 1 + 1 + 1 + 1, 0, none⟩), .int .i64 (x.val : Int), .pointer (some ⟨Bx, 0, none⟩), .agg (wcells a), .agg (wcells b), .func (.func 98) #[] #[.pointer (some ⟨w.heap.size + 1 + 1 + 1 + 1 + 1, 0, none⟩), .pointer (some ⟨w.heap.size + 1 + 1 + 1 + 1 + 1 + 1, 0, none⟩)], .int .i64 (x.val : Int), .agg #[.int .i64 (dg a x.val), .int .i64 (dg b x.val)], undef, undef, undef, undef, undef, undef, undef, undef, undef, undef, undef, undef, undef, undef, undef], defers := [] })
    (fun x a' => ownFrom_ex fun Bx => OwnFrom.and (ownFrom_pure _ (fun _ => _)) (OwnFrom.and (own_block _ Bx _ (fun (_ : Unit) => #[.int .i64 (dg a x.val), .int .i64 (dg b x.val)])) (ownFrom_pure _ (fun _ => _))))
    ?assign ?body ?done ?stop
  case assign =>
    rintro l pre x W K ⟨⟨hr2, hr3⟩, hr4, hB1, hz1⟩ hK
    gi_wp2
    exact hK _ _ ((KeepsOthers.alloc _ _).from _) ⟨Below.heap_alloc _ _ _ (by omega), Below.heap_alloc _ _ _ (by omega)⟩
      ⟨⟨by rw [Below.heap_alloc _ _ _ (by omega)]; exact hr2, by rw [Below.heap_alloc _ _ _ (by omega)]; exact hr3⟩, by rw [Below.heap_alloc _ _ _ (by omega)]; exact hr4, hB1.alloc hB1.size _, by simp; omega⟩ ⟨W.heap.size, by omega, heap_alloc_new' _ _ _ rfl, rfl⟩
  case body =>
    rintro l pre x a' W hl _ ⟨⟨hr2, hr3⟩, hr4, hB1, hz1⟩ ⟨Bx, hBx, hx, rfl⟩ _
    have c0 := cell_of_row W Bx 0 _ _ _ hx
    have c1 := cell_of_row W Bx 1 _ _ _ hx
    have hcar := (add_carry a b pre).1
    have hcsz := (add_carry a b pre).2
    have fold : (pre ++ [x]).foldl (fun s x => addStep a b s x.val) (0, wcells 0) = addStep a b (pre.foldl (fun s x => addStep a b s x.val) (0, wcells 0)) x.val := by simp
    obtain ⟨st, hst⟩ : ∃ st, st = pre.foldl (fun s x => addStep a b s x.val) (0, wcells 0) := ⟨_, rfl⟩
    rw [← hst] at hcar hcsz hr3 hr4 fold
    obtain ⟨c, o⟩ := st
    have FO := Lib.hid fold
    clear fold HC hst
    simp only at hcar hcsz hr3 hr4
    have d0 := dg_lt a x.val
    have d1 := dg_lt b x.val
    have hxv := x.isLt
    have cr := cell_of_row W (w.heap.size + 1 + 1 + 1 + 1) 0 _ _ _ hr4
    have fr := frozen_of_row W (w.heap.size + 1 + 1 + 1 + 1) 0 _ _ hr4
    have co : W.cell? ⟨w.heap.size + 1 + 1 + 1, x.val, none⟩ = some (o[x.val]'(by omega)) := by rw [cell_of_row W _ x.val _ _ _ hr3]; exact Array.getElem?_eq_getElem _
    have fo := frozen_of_row W (w.heap.size + 1 + 1 + 1) x.val _ _ hr3
    simp only [List.getElem?_toArray, List.getElem?_cons_zero, List.getElem?_cons_succ] at c0 c1 cr
    clear hx
    gi_wp2
    refine ⟨(((KeepsOthers.setCell _ _ _).trans (KeepsOthers.setCell _ _ _)).trans (KeepsOthers.setCell _ _ _)).from _,
      ⟨by rw [heap_setCell_other _ _ _ _ (by simp only [ne_eq]; omega), heap_setCell_other _ _ _ _ (by simp only [ne_eq]; omega), heap_setCell_other _ _ _ _ (by simp only [ne_eq]; omega)], by rw [heap_setCell_other _ _ _ _ (by simp only [ne_eq]; omega), heap_setCell_other _ _ _ _ (by simp only [ne_eq]; omega), heap_setCell_other _ _ _ _ (by simp only [ne_eq]; omega)]⟩, ?_⟩
    dsimp only
    rw [FO.out]
    refine ⟨⟨?_, ?_⟩, ?_, ((hB1.setCell (p := ⟨w.heap.size + 1 + 1 + 1 + 1, 0, none⟩) (by simp only; omega) _).setCell (p := ⟨w.heap.size + 1 + 1 + 1, x.val, none⟩) (by simp only; omega) _).setCell (p := ⟨w.heap.size + 1 + 1 + 1 + 1, 0, none⟩) (by simp only; omega) _, by simp; omega⟩
    · rw [heap_setCell_other _ _ _ _ (by simp only [ne_eq]; omega), heap_setCell_other _ _ _ _ (by simp only [ne_eq]; omega), heap_setCell_other _ _ _ _ (by simp only [ne_eq]; omega)]; exact hr2
    · rw [heap_setCell_other _ _ _ _ (by simp only [ne_eq]; omega)]
      refine (heap_setCell_same _ _ _ o _ _ (by rw [heap_setCell_other _ _ _ _ (by simp only [ne_eq]; omega)]; exact hr3)).trans ?_
      rfl
    · refine (heap_setCell_same _ _ _ #[.int .i64 (c + (dg a x.val + dg b x.val))] _ _ (by rw [heap_setCell_other _ _ _ _ (by simp only [ne_eq]; omega)]; exact heap_setCell_same _ _ _ _ _ _ hr4)).trans ?_
      rfl
  case done =>
    rintro D ys W hD rfl ⟨⟨hr2, hr3⟩, hr4, hB1, hz1⟩ hK
    rw [HC.out] at hr3
    have r3 := rowOf_of hr3
    have r2 := rowOf_of hr2
    have f2 := freeOf_of hr2
    clear hr4
    gi_wp2
    refine ⟨by simp, .inl ⟨_, _, rfl, run_takeDeferred ((heap_putRow_other _ _ _ _ _ (by omega)).trans hK), ?_⟩⟩
    have h2' : ((W.putRow (w.heap.size + 1 + 1) 0 (wcells (a + b))).putObj D (.deferred none)).heap[w.heap.size + 1 + 1]? = some (.cells (wcells (a + b)) 41 (0, 0)) := by
      rw [World.putObj_heap_other (by omega), heap_putRow_same hr2, splice_wide]
    refine ⟨.agg (wcells (a + b)), ?_, rfl, (hB1.putRow (by omega) _ _).trans (belowK_b (w := w) (Nat.le_refl _) _ D _ _ (by omega) ((heap_putRow_other _ _ _ _ _ (by omega)).trans hK) rfl rfl)⟩
    exact results_cell_row rfl _ _ (w.heap.size + 1 + 1) _ _ _ _ rfl h2' Tryz.underlying41 rfl (by rw [wcells_size]; exact rtWide.2)
  case stop =>
    rintro D c pre W _ _ h _
    exact h.elim
end Go.Proofs.YtkcogoibaodbeaaGreatDoor
