/- pairs: the iterator over the digits of two numbers. -/
import Derived.Test.YtkcogoibaodbeaaGreatDoorTypes
import Derived.RangeFuncNested
import Derived.RangeFuncBound
import Derived.RangeFuncCalls
import Derived.RangeFuncLeaves
import Derived.RangeFuncBox
import Derived.Shelf.Abstract
import Derived.OwnWalkIn
import Derived.IntWalk
import Derived.TacticsInMore
import Derived.LoopNIn
import Derived.LoopIn
import Derived.Test.YtkcogoibaodbeaaGreatDoorStillIn
set_option linter.unusedVariables false
set_option linter.unusedSimpArgs false
namespace Go.Proofs.YtkcogoibaodbeaaGreatDoor
open Go.RowKit Go.Shelf
attribute [local go_sem] Oper.semAt_some
/-- The places of a number's digits, in order. -/
def places : List (Fin 128) := List.finRange 128
theorem places_take (k : Nat) (h : k < 128) : places.take (k + 1) = places.take k ++ [⟨k, h⟩] := by
  unfold places
  rw [List.take_succ_eq_append_getElem (by simpa using h)]
  simp
theorem places_all : places.take 128 = places := List.take_of_length_le (by simp [places])
set_option maxHeartbeats 1000000 in
theorem pairs_in (F : Fence) (n : Nat) (hf : F.fn 88) (hro : F.round = none) (a b : Nat) (w : World) :
    CallsIn F n Tryz.prog 88 #[.agg (wcells a), .agg (wcells b)] w fun e w' => e = .returned (.func (.func 98) #[] #[.pointer (some ⟨w.heap.size, 0, none⟩), .pointer (some ⟨w.heap.size + 1, 0, none⟩)]) ∧
      w' = (w.alloc (.cells (wcells a) 41)).alloc (.cells (wcells b) 41) := by
  refine callsIn_of_wp Tryz.func88 rfl hf ?_ hro
  simp only [Tryz.ntmps88, List.size_toArray, List.length_cons, List.length_nil, Nat.reduceAdd, Nat.reduceSub, Array.replicate_succ, Array.replicate_zero, List.push_toArray, List.append_toArray, List.nil_append, List.cons_append]
  gi_wp2
  go_ret
  exact ⟨rfl, rfl⟩
/-- Two blocks hold what they held. -/
def KeepsTwo (ba bb : Nat) (W W' : World) : Prop := W'.heap[ba]? = W.heap[ba]? ∧ W'.heap[bb]? = W.heap[bb]?
theorem KeepsTwo.trans {ba bb : Nat} {A B C : World} (h : KeepsTwo ba bb A B) (k : KeepsTwo ba bb B C) : KeepsTwo ba bb A C := ⟨k.1.trans h.1, k.2.trans h.2⟩
theorem KeepsTwo.refl (ba bb : Nat) (W : World) : KeepsTwo ba bb W W := ⟨rfl, rfl⟩
theorem keepsTwo_put {ba bb B : Nat} (h1 : ba < B) (h2 : bb < B) (W : World) (l : Nat) (o o' : Obj) (hl : B ≤ l) (_ : W.heap[l]? = some o) (_ : o.isCells = false) (_ : o.isWalk = false) : KeepsTwo ba bb W (W.putObj l o') :=
  ⟨World.putObj_heap_other (by omega), World.putObj_heap_other (by omega)⟩
set_option maxRecDepth 100000 in
set_option maxHeartbeats 2000000 in
theorem pairs1_in (n : Nat) (hn : 1 ≤ n) (l ba bb a b : Nat) (J Jx : List (Fin 128) → World → Prop)
    (hJd : ∀ pre W, J pre W → J pre W.drew)
    (hY : ∀ pre x W, J pre W → pre.length < 128 → YieldAt Fence.wide (n - 1) Tryz.prog l #[.int .i64 (x.val : Int), .agg #[.int .i64 (dg a x.val), .int .i64 (dg b x.val)]] W fun e W' =>
      (e = .returned (.bool true) ∧ J (pre ++ [x]) W' ∧ KeepsTwo ba bb W W') ∨ (e = .returned (.bool false) ∧ Jx (pre ++ [x]) W'))
    (W : World) (hca : ∀ i, i < 128 → W.cell? ⟨ba, i, none⟩ = some (.int .u8 (dg a i))) (hcb : ∀ i, i < 128 → W.cell? ⟨bb, i, none⟩ = some (.int .u8 (dg b i))) (h0 : J [] W) :
    CallsIn Fence.wide n Tryz.prog 98 #[.func (.yield l) #[] #[], .pointer (some ⟨ba, 0, none⟩), .pointer (some ⟨bb, 0, none⟩)] W fun e W' => (∃ v, e = .returned v) ∧
      ((∃ ys, ys = places ∧ J ys W') ∨ (∃ pre, True ∧ Jx pre W')) := by
  refine callsIn_of_wp Tryz.func98 rfl trivial ?_ rfl
  simp only [Tryz.ntmps98, List.size_toArray, List.length_cons, List.length_nil, Nat.reduceAdd, Nat.reduceSub, Array.replicate_succ, Array.replicate_zero, List.push_toArray, List.append_toArray, List.nil_append, List.cons_append]
  gi_wp2
  gi_loopw [5] (fun i wr => ∃ k : Nat, k ≤ 128 ∧ i = .int .i64 k ∧ J (places.take k) wr ∧ KeepsTwo ba bb W wr)
    (fun i _ => 128 - (intOf i).toNat)
  case atStart => exact ⟨0, Nat.zero_le _, rfl, h0, KeepsTwo.refl _ _ _⟩
  case round =>
    obtain ⟨k, hk, rfl, hJs, hnx⟩ := hrel
    by_cases hlt : k < 128
    · obtain ⟨fn, tmps, assign, body, hy, hR⟩ := hY _ ⟨k, hlt⟩ wr.drew (hJd _ _ hJs) (by simp [places]; omega)
      dsimp only at hy
      have ha := (World.cell?_of_block (a := ⟨ba, k, none⟩) hnx.1).trans (hca k hlt)
      have hb := (World.cell?_of_block (a := ⟨bb, k, none⟩) hnx.2).trans (hcb k hlt)
      have hd1 := dg_lt a k
      have hd2 := dg_lt b k
      have hw1 : IntKind.i64.wrap (dg a k : Int) = dg a k := IntWalk.i64_in _ (by omega)
      have hw2 : IntKind.i64.wrap (dg b k : Int) = dg b k := IntWalk.i64_in _ (by omega)
      clear hca hcb hY hJd hd1 hd2
      gi_wp2
      refine wpIn_region_still_tail 11 (by kernel_rfl) (by kernel_rfl) ?_
      simp only [List.take_succ_cons, List.take_zero, List.drop_succ_cons, List.drop_zero]
      repeat still_step
      refine wpStill_nil ?_
      gi_wp2
      clear hw1 hw2
      refine hR.mono ?_
      rintro e W3 (⟨rfl, hJ3, hk3⟩ | ⟨rfl, hJx3⟩)
      · gi_wp2
        go_roundw
        case rel => exact ⟨k + 1, by omega, by simp, by rw [places_take k hlt]; exact hJ3, hnx.trans hk3⟩
        case measure => simp [intOf]; omega
      · gi_wp2
        refine bodyPost_ret (results_none rfl _ _ _) rfl ?_
        exact ⟨⟨_, rfl⟩, .inr ⟨_, trivial, hJx3⟩⟩
    · obtain rfl : k = 128 := by omega
      clear hca hcb hY hJd
      gi_wp2
      go_end0
      exact ⟨⟨_, rfl⟩, .inl ⟨_, rfl, by rw [← places_all]; exact hJs⟩⟩
theorem grownBy_drew (W : World) : W.grownBy W.drew none := ⟨rfl, rfl, rfl, Nat.le_refl _, fun _ _ _ => rfl⟩
/-- What pairs hands back goes through all the places in order, if the body never leaves. -/
theorem pairs_stops (n : Nat) (hn : 1 ≤ n) (ba bb a b : Nat) (w : World) (hba : ba < w.heap.size) (hbb : bb < w.heap.size)
    (hca : ∀ i, i < 128 → w.cell? ⟨ba, i, none⟩ = some (.int .u8 (dg a i))) (hcb : ∀ i, i < 128 → w.cell? ⟨bb, i, none⟩ = some (.int .u8 (dg b i))) :
    SeqStopsK Fence.wide n Tryz.prog 98 #[.pointer (some ⟨ba, 0, none⟩), .pointer (some ⟨bb, 0, none⟩)]
      (fun x : Fin 128 => #[.int .i64 (x.val : Int), .agg #[.int .i64 (dg a x.val), .int .i64 (dg b x.val)]]) (KeepsTwo ba bb) (fun ys => ys = places) (fun _ => True) 128 w := fun l J Jx W hW hJ _ hY h0 => by
  refine pairs1_in n hn l ba bb a b J Jx (fun pre W' h => hJ pre W' W'.drew none h (grownBy_drew W') (fun r e => by cases e)) hY W ?_ ?_ h0
  · intro i hi; exact (hW.cell (p := ⟨ba, i, none⟩) hba).trans (hca i hi)
  · intro i hi; exact (hW.cell (p := ⟨bb, i, none⟩) hbb).trans (hcb i hi)
end Go.Proofs.YtkcogoibaodbeaaGreatDoor
