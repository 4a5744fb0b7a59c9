/- wide.compare: which of two numbers is greater. -/
import Derived.Test.YtkcogoibaodbeaaGreatDoorPairs
set_option linter.unusedVariables false
set_option linter.unusedSimpArgs false
namespace Go.Proofs.YtkcogoibaodbeaaGreatDoor
open Go.RowKit Go.Shelf
attribute [local go_sem] Oper.semAt_some
/-- A fold over the places, place by place. -/
theorem places_fold {σ : Type} (f : σ → Nat → σ) (s0 : σ) (Inv : Nat → σ → Prop) (h0 : Inv 0 s0) (hs : ∀ k s, k < 128 → Inv k s → Inv (k + 1) (f s k)) :
    Inv 128 (places.foldl (fun s x => f s x.val) s0) := by
  have key : ∀ k, k ≤ 128 → Inv k ((places.take k).foldl (fun s x => f s x.val) s0) := by
    intro k
    induction k with
    | zero => intro _; exact h0
    | succ k ih =>
      intro hk
      rw [places_take k (by omega), List.foldl_append]
      exact hs k _ (by omega) (ih (by omega))
  have := key 128 (Nat.le_refl _)
  rwa [places_all] at this
def cmpStep (a b : Nat) (o : Int) (i : Nat) : Int := if dg a i < dg b i then -1 else if dg b i < dg a i then 1 else o
def cmpOf (a b : Nat) : Int := if a < b then -1 else if b < a then 1 else 0
theorem cmp_fold {a b : Nat} (ha : a < Big) (hb : b < Big) : places.foldl (fun s x => cmpStep a b s x.val) 0 = cmpOf a b := by
  have h := places_fold (cmpStep a b) 0 (fun k s => s = cmpOf (a % 10 ^ k) (b % 10 ^ k)) (by simp [cmpOf, Nat.mod_one]) (by
    rintro k s _ rfl
    have pa := Nat.mod_lt a (show 0 < 10 ^ k from Nat.pow_pos (by decide))
    have pb := Nat.mod_lt b (show 0 < 10 ^ k from Nat.pow_pos (by decide))
    rw [modp_succ, modp_succ]
    unfold cmpStep
    generalize dg a k = x
    generalize dg b k = y
    generalize a % 10 ^ k = p at *
    generalize b % 10 ^ k = q at *
    generalize 10 ^ k = t at *
    rcases Nat.lt_trichotomy x y with h | h | h
    · have : t * (x + 1) ≤ t * y := Nat.mul_le_mul_left _ h
      rw [Nat.mul_succ] at this
      unfold cmpOf
      rw [if_pos h, if_pos (by omega)]
    · subst h
      unfold cmpOf
      rw [if_neg (by omega), if_neg (by omega)]
      congr 1
      · simp
      · congr 1; simp
    · have : t * (y + 1) ≤ t * x := Nat.mul_le_mul_left _ h
      rw [Nat.mul_succ] at this
      unfold cmpOf
      rw [if_neg (by omega), if_pos h, if_neg (by omega), if_pos (by omega)])
  unfold Big at ha hb
  rw [h, Nat.mod_eq_of_lt ha, Nat.mod_eq_of_lt hb]
/-- A block of cells stays, whatever that is no cells turns. -/
theorem own_block {β : Type} (B b : Nat) (t : TypeId) (f : β → Array Value) : OwnFrom B (fun (s : β) W => W.heap[b]? = some (.cells (f s) t (0, 0))) := fun s W W' row hs hg hr => by
  replace hs : W.heap[b]? = some (.cells (f s) t (0, 0)) := hs
  show W'.heap[b]? = some (.cells (f s) t (0, 0))
  have hlt : b < W.heap.size := (Array.getElem?_eq_some_iff.1 hs).1
  rw [← hs]
  refine hg.block b hlt (fun e => ?_)
  obtain ⟨_, o, ho, hc⟩ := hr b e.symm
  rw [hs] at ho
  cases ho
  simp [Obj.isCells] at hc
theorem ownFrom_size {β : Type} (B n : Nat) : OwnFrom B (fun (_ : β) W => n ≤ W.heap.size) := fun _ _ _ _ hs hg _ => Nat.le_trans hs hg.size
theorem ownFrom_ex {β γ : Type} {B : Nat} {I : γ → β → World → Prop} (h : ∀ c, OwnFrom B (I c)) : OwnFrom B (fun s W => ∃ c, I c s W) := fun s W W' row ⟨c, hs⟩ hg hr => ⟨c, h c s W W' row hs hg hr⟩
set_option maxRecDepth 100000 in
set_option maxHeartbeats 1000000 in
theorem compare_any (a b : Nat) (w : World) (ha : a < Big) (hb : b < Big) :
    Calls Tryz.prog 76 #[.agg (wcells a), .agg (wcells b)] w fun e w' => e = .returned (.int .i64 (cmpOf a b)) ∧ Below w.heap.size w w' := by
  have HC := Lib.hid (cmp_fold ha hb)
  clear ha hb
  refine (callsIn_wide (n := 3)).1 ?_
  refine callsIn_of_wp_marks Tryz.func76 rfl trivial ?_ rfl
  simp only [Tryz.ntmps76, List.size_toArray, List.length_cons, List.length_nil, Nat.reduceAdd, Nat.reduceSub, Array.replicate_succ, Array.replicate_zero, List.push_toArray, List.append_toArray, List.nil_append, List.cons_append]
  gi_wp2_with (refine ⟨trivial, ?_⟩; gi_at_call 88; refine (pairs_in Fence.wide _ trivial rfl a b _).mono ?_; rintro e w' ⟨rfl, rfl⟩)
  have hsz : (((((w.alloc (.cells (wcells a) 41)).alloc (.cells (wcells b) 41)).alloc (.cells #[.int .i64 0] 3)).alloc (.cells (wcells a) 41)).alloc (.cells (wcells b) 41)).heap.size = w.heap.size + 5 := by simp
  have hB0 : Below w.heap.size w (((((w.alloc (.cells (wcells a) 41)).alloc (.cells (wcells b) 41)).alloc (.cells #[.int .i64 0] 3)).alloc (.cells (wcells a) 41)).alloc (.cells (wcells b) 41)) :=
    (((((Below.refl _ w).alloc (Nat.le_refl _) _).alloc (by simp) _).alloc (by simp only [World.size_alloc]; omega) _).alloc (by simp only [World.size_alloc]; omega) _).alloc (by simp only [World.size_alloc]; omega) _
  have hr : (((((w.alloc (.cells (wcells a) 41)).alloc (.cells (wcells b) 41)).alloc (.cells #[.int .i64 0] 3)).alloc (.cells (wcells a) 41)).alloc (.cells (wcells b) 41)).heap[w.heap.size + 1 + 1]? = some (.cells #[.int .i64 0] 3 (0, 0)) := by
    rw [Below.heap_alloc _ _ _ (by simp), Below.heap_alloc _ _ _ (by simp)]
    exact heap_alloc_new' _ _ _ (by simp)
  have hca : (((((w.alloc (.cells (wcells a) 41)).alloc (.cells (wcells b) 41)).alloc (.cells #[.int .i64 0] 3)).alloc (.cells (wcells a) 41)).alloc (.cells (wcells b) 41)).heap[w.heap.size + 1 + 1 + 1]? = some (.cells (wcells a) 41 (0, 0)) := by
    rw [Below.heap_alloc _ _ _ (by simp)]
    exact heap_alloc_new' _ _ _ (by simp)
  have hcb : (((((w.alloc (.cells (wcells a) 41)).alloc (.cells (wcells b) 41)).alloc (.cells #[.int .i64 0] 3)).alloc (.cells (wcells a) 41)).alloc (.cells (wcells b) 41)).heap[w.heap.size + 1 + 1 + 1 + 1]? = some (.cells (wcells b) 41 (0, 0)) :=
    heap_alloc_new' _ _ _ (by simp)
  obtain ⟨W0, hW0⟩ : ∃ W0, ((((w.alloc (.cells (wcells a) 41)).alloc (.cells (wcells b) 41)).alloc (.cells #[.int .i64 0] 3)).alloc (.cells (wcells a) 41)).alloc (.cells (wcells b) 41) = W0 := ⟨_, rfl⟩
  rw [hW0] at hsz hB0 hr hca hcb ⊢
  clear hW0
  refine wpIn_rangeFunc_ownH rfl (by omega) (gf := 98) (lb := #[.pointer (some ⟨w.heap.size + 1 + 1 + 1, 0, none⟩), .pointer (some ⟨w.heap.size + 1 + 1 + 1 + 1, 0, none⟩)]) rfl trivial (enters_of Tryz.func98 (by kernel_rfl) rfl)
    (pairs_stops _ (by omega) (w.heap.size + 1 + 1 + 1) (w.heap.size + 1 + 1 + 1 + 1) a b W0 (by omega) (by omega)
      (fun i hi => by rw [cell_of_row _ _ _ _ _ _ hca, wcells_get a i hi]) (fun i hi => by rw [cell_of_row _ _ _ _ _ _ hcb, wcells_get b i hi])) KeepsTwo.trans (keepsTwo_put (by omega) (by omega)) (Below.refl _ _) (fun _ => rfl)
    (fun pre W => W.heap[w.heap.size + 1 + 1]? = some (.cells #[.int .i64 (pre.foldl (fun s x => cmpStep a b s x.val) 0)] 3 (0, 0)) ∧ (Below w.heap.size w W ∧ W0.heap.size ≤ W.heap.size))
    (fun _ _ _ => False)
    (OwnFrom.and (own_block _ _ _ _) (OwnFrom.and (ownFrom_below (Nat.le_refl _) (by omega)) (ownFrom_size _ _)))
    (fun _ _ _ _ _ hs _ _ => hs)
    ⟨hr, hB0, Nat.le_refl _⟩
    (fun x a' W => ∃ Bx, W0.heap.size ≤ Bx ∧ W.heap[Bx]? = some (.cells #[.int .i64 (dg a x.val), .int .i64 (dg b x.val)] 108 (0, 0)) ∧ a' = { tmps := #[.agg (wcells a), .agg (wcells b), .pointer (some ⟨w.heap.size, 0, none⟩), .pointer (some ⟨w.heap.size + 1, 0, none⟩), .int .i64 0, .pointer (some ⟨w.heap.size + 1 + 1, 0, none⟩), undef, .pointer (some ⟨Bx, 0, none⟩), .agg (wcells a), .agg (wcells b), .func (.func 98) #[] #[.pointer (some ⟨w.heap.size + 1 + 1 + 1, 0, none⟩), .pointer (some ⟨w.heap.size + 1 + 1 + 1 + 1, 0, none⟩)], .int .i64 (x.val : Int), .agg #[.int .i64 (dg a x.val), .int .i64 (dg b x.val)], undef, undef, undef, undef, undef, undef, undef, undef, undef, undef, undef], defers := [] })
    (fun x a' => ownFrom_ex fun Bx => OwnFrom.and (ownFrom_pure _ (fun _ => _)) (OwnFrom.and (own_block _ Bx _ (fun (_ : Unit) => #[.int .i64 (dg a x.val), .int .i64 (dg b x.val)])) (ownFrom_pure _ (fun _ => _))))
    ?assign ?body ?done ?stop
  case assign =>
    rintro l pre x W K ⟨hr1, hB1, hz1⟩ hK
    gi_wp2
    exact hK _ _ ((KeepsOthers.alloc _ _).from _) ⟨Below.heap_alloc _ _ _ (by omega), Below.heap_alloc _ _ _ (by omega)⟩
      ⟨by rw [Below.heap_alloc _ _ _ (by omega)]; exact hr1, hB1.alloc hB1.size _, by simp; omega⟩ ⟨W.heap.size, hz1, heap_alloc_new' _ _ _ rfl, rfl⟩
  case body =>
    rintro l pre x a' W hl _ ⟨hr1, hB1, hz1⟩ ⟨Bx, hBx, hx, rfl⟩ _
    have c0 := cell_of_row W Bx 0 _ _ _ hx
    have c1 := cell_of_row W Bx 1 _ _ _ hx
    have cr := cell_of_row W (w.heap.size + 1 + 1) 0 _ _ _ hr1
    have fr := frozen_of_row W (w.heap.size + 1 + 1) 0 _ _ hr1
    simp only [List.getElem?_toArray, List.getElem?_cons_zero, List.getElem?_cons_succ] at c0 c1 cr
    have hs : ∀ v, KeepsTwo (w.heap.size + 1 + 1 + 1) (w.heap.size + 1 + 1 + 1 + 1) W (W.setCell ⟨w.heap.size + 1 + 1, 0, none⟩ v) := fun v =>
      ⟨heap_setCell_other _ _ _ _ (by simp), heap_setCell_other _ _ _ _ (by simp; omega)⟩
    have fold : ∀ o, (pre ++ [x]).foldl (fun s x => cmpStep a b s x.val) o = cmpStep a b (pre.foldl (fun s x => cmpStep a b s x.val) o) x.val := fun o => by simp
    by_cases h1 : dg a x.val < dg b x.val
    · have e := fun o => (fold o).trans (if_pos h1)
      have h1' : (dg a x.val : Int) < dg b x.val := by omega
      clear fold
      have E := Lib.hid e
      clear e
      gi_wp2
      refine ⟨(KeepsOthers.setCell _ _ _).from _, hs _, ?_, hB1.setCell (p := ⟨w.heap.size + 1 + 1, 0, none⟩) (by simp; omega) _, by simp; omega⟩
      rw [E.out]
      exact heap_setCell_same W _ 0 _ _ _ hr1
    · have h1' : ¬ (dg a x.val : Int) < dg b x.val := by omega
      by_cases h2 : dg b x.val < dg a x.val
      · have e := fun o => (fold o).trans ((if_neg h1).trans (if_pos h2))
        have h2' : (dg b x.val : Int) < dg a x.val := by omega
        clear fold
        have E := Lib.hid e
        clear e
        gi_wp2
        refine ⟨(KeepsOthers.setCell _ _ _).from _, hs _, ?_, hB1.setCell (p := ⟨w.heap.size + 1 + 1, 0, none⟩) (by simp; omega) _, by simp; omega⟩
        rw [E.out]
        exact heap_setCell_same W _ 0 _ _ _ hr1
      · have e := fun o => (fold o).trans ((if_neg h1).trans (if_neg h2))
        have h2' : ¬ (dg b x.val : Int) < dg a x.val := by omega
        clear fold
        have E := Lib.hid e
        clear e
        gi_wp2
        refine ⟨KeepsFrom.refl _ _, KeepsTwo.refl _ _ _, ?_, hB1, by omega⟩
        rw [E.out]
        exact hr1
  case done =>
    rintro D ys W hD rfl ⟨hr1, hB1, hz1⟩ hK
    have cr := cell_of_row W (w.heap.size + 1 + 1) 0 _ _ _ hr1
    simp only [List.getElem?_toArray, List.getElem?_cons_zero, HC.out] at cr
    gi_wp2
    refine ⟨by simp, .inl ⟨_, _, rfl, run_takeDeferred hK, ?_⟩⟩
    exact ⟨_, results_tmp rfl _ _ _, rfl, hB1.trans (belowK_b (w := w) (Nat.le_refl _) W D _ _ (by omega) hK rfl rfl)⟩
  case stop =>
    rintro D c pre W _ _ h _
    exact h.elim
end Go.Proofs.YtkcogoibaodbeaaGreatDoor
