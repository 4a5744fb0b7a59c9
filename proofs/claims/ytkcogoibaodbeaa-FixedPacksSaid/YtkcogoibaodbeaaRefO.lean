/- The references' Pack. The references' Unpack. -/
import Derived.Test.YtkcogoibaodbeaaPackF
import Derived.Deep.OwnRows
import Derived.Laws.AppendOwn
import Derived.WalkSpells
set_option linter.unusedVariables false
set_option linter.unusedSimpArgs false
namespace Go.Proofs.Ytkcogoibaodbeaa
open Go.RowKit
attribute [local go_sem] ByteArray.mk_append_mk ByteArray.extract_mk
/-- The bytes laid so far. -/
def pxs (U sg L j : Nat) : List Value := (List.range j).map fun k => Value.int .u8 ((pb U sg (L - 1 - k) : Nat) : Int)
theorem pxs_zero (U sg L : Nat) : pxs U sg L 0 = [] := rfl
theorem pxs_succ (U sg L j : Nat) : pxs U sg L (j + 1) = pxs U sg L j ++ [.int .u8 ((pb U sg (L - 1 - j) : Nat) : Int)] := by
  unfold pxs; rw [List.range_succ, List.map_append]; rfl
theorem pxs_get (U sg L j k : Nat) (h : k < j) : (pxs U sg L j)[k]? = some (.int .u8 ((pb U sg (L - 1 - k) : Nat) : Int)) := by
  unfold pxs
  rw [List.getElem?_map, List.getElem?_range h]; rfl
theorem dd_byte (U K p : Nat) (h : p < K) (h2 : p < (ByteArray.mk (dd U K).toArray).size) : ((ByteArray.mk (dd U K).toArray)[p]'h2).toNat = 48 + dg U (K - 1 - p) := by
  have e := dd_get U K (K - 1 - p) (by omega)
  rw [show K - 1 - (K - 1 - p) = p by omega, List.getElem?_eq_some_iff] at e
  obtain ⟨h3, e⟩ := e
  have : (ByteArray.mk (dd U K).toArray)[p]'h2 = chr (dg U (K - 1 - p)) := e
  rw [this, chr_nat (dg_lt _ _)]
theorem conv_own (U sg L : Nat) (W : World) (base : Nat) (ao : Option Addr) (cv : Nat) (hsg : sg < 16) (hL : 1 ≤ L) (hown : W.ownsRow base 5 1 (.slice ao L cv) L (pxs U sg L L)) :
    (convert 67 9 (.slice ao L cv)).run Try.prog W = .ok (.string ⟨(packB U sg L).toArray⟩) W := by
  rcases hown.2 with ⟨_, h⟩ | ⟨g, cap, cur, hv, _⟩
  · exact (Nat.ne_of_gt hL h).elim
  · obtain ⟨h1, h2, h3⟩ := Value.slice.inj hv
    subst h1
    have hc := hown.cells (g := g) rfl
    have h := run_convert_bytes_back (P := Try.prog) W 67 9 5 ⟨g, 0, none⟩ cv (packB U sg L) (by kernel_rfl) (by kernel_rfl) (by kernel_rfl) (fun j hj => by
      have hj' : j < L := by simpa using hj
      rw [hc j _ (pxs_get U sg L L j hj')]
      have e1 := packB_get U sg L j hj'
      rw [List.getElem?_eq_getElem (by simpa using hj')] at e1
      rw [Option.some.inj e1, pb_nat hsg])
    rw [packB_length] at h
    exact h
attribute [local irreducible] ds dd txt packB pxs
set_option maxRecDepth 100000 in
set_option maxHeartbeats 4000000 in
theorem rpack_true (x : List UInt8) (U s d : Nat) (w : World) (TO : ∀ w, Calls Try.prog 17 #[.string ⟨x.toArray⟩, .int .i64 d, .int .i64 s] w fun e w' => e = .returned (.tuple #[.string ⟨(txt true U s).toArray⟩, .int .i64 0]) ∧ Below w.heap.size w w')
    (RD : ∀ w, Calls Try.prog 41 #[.string ⟨(txt true U s).toArray⟩] w fun e w' => e = .returned (.tuple #[.agg (rcells true U s), .bool true]) ∧ Below w.heap.size w w') (h1 : 1 ≤ d) (h2 : d ≤ 31) (hU : dl U ≤ d) :
    Calls Try.prog 19 #[.string ⟨x.toArray⟩, .int .i64 d, .int .i64 s] w fun e w' => e = .returned (.tuple #[.string ⟨(packB U 13 (d / 2 + 1)).toArray⟩, .int .i64 0]) ∧ Below w.heap.size w w' := by
  obtain ⟨i0, hi, hz0, hz1, hz2⟩ := info_parts (P := Try.prog) (e := 5) (z := .int .u8 0) (size := 1) (bytes := 1) (by kernel_rfl)
  obtain ⟨L, hL⟩ : ∃ L, d / 2 + 1 = L := ⟨_, rfl⟩
  obtain ⟨K, hK⟩ : ∃ K, 2 * L - 1 = K := ⟨_, rfl⟩
  have hL2 : 1 ≤ L := by omega
  have hL3 : L ≤ 16 := by omega
  have e1 : (d : Int) / 2 = (L : Int) - 1 := by omega
  have e2 : ((L : Int) - 1) * 2 + 1 = (K : Int) := by omega
  have w1 : IntKind.i64.wrap ((L : Int) - 1) = (L : Int) - 1 := IntWalk.i64_in _ (by omega)
  have w2 : IntKind.i64.wrap (((L : Int) - 1) * 2) = ((L : Int) - 1) * 2 := IntWalk.i64_in _ (by omega)
  have w3 : IntKind.i64.wrap (K : Int) = (K : Int) := IntWalk.i64_in _ (by omega)
  have hUK : dl U ≤ K := by omega
  have zu := ds_length U
  have zK := dd_length U K
  rw [hL]
  have TO' := Lib.hid TO
  have RD' := Lib.hid RD
  clear TO RD
  obtain ⟨z, hz⟩ : ∃ z, K - dl U = z := ⟨_, rfl⟩
  have hz' : (K : Int) - (dl U : Int) = (z : Int) := by omega
  have wz : IntKind.i64.wrap (z : Int) = (z : Int) := IntWalk.i64_in _ (by omega)
  have zz := dd_length 0 z
  have ZE := Lib.hid (fun w => zeros_dds z w (by omega))
  have pad : dd 0 z ++ ds U = dd U K := by
    unfold ds
    rw [dd_pad U (dl U) z (lt_pow_dl U)]
    congr 1; omega
  have hfull : ¬ dl U < K → ds U = dd U K := fun h => by
    have : z = 0 := by omega
    rw [this] at pad
    rw [← pad]
    unfold dd; rfl
  by_cases hlt : dl U < K
  all_goals first | (have hlt' : (dl U : Int) < (K : Int) := (by omega)) | (have hlt' : ¬ (dl U : Int) < (K : Int) := (by omega); have hds := hfull hlt)
  all_goals
    clear hfull
    go_enter Try.func19, Try.ntmps19
    go_wp2_with (first
      | (go_at_call 17; refine (TO'.out _).mono ?_; rintro e w1 ⟨rfl, hb⟩; have K1 := (Blk.nil w).kept hb; clear hb)
      | (go_at_call 41; refine (RD'.out _).mono ?_; rintro e w2 ⟨rfl, hb⟩; have K2 := K1.kept hb; clear hb)
      | (go_at_call 49; refine (ZE.out _).mono ?_; rintro e w3 ⟨rfl, rfl⟩))
    have B0 := (K2.more (.cells (rcells true U s) 50)).below
    go_loopw [15, 16] (fun s15 s16 W => ∃ (j I : Nat) (ao : Option Addr) (cv : Nat), j ≤ L ∧ I = 2 * j ∧ s16 = .int .i64 (I : Int) ∧ s15 = .slice ao j cv ∧ W.ownsRow w.heap.size 5 1 s15 j (pxs U 13 L j) ∧ Below w.heap.size w W) (fun _ s16 _ => 2 * L - (intOf s16).toNat)
    case atStart => exact ⟨0, 0, none, 0, by omega, rfl, rfl, rfl, by rw [pxs_zero]; exact World.ownsRow_nil _ _ _ _, B0⟩
    case round =>
      obtain ⟨j, I, ao, cv, hj, hI, rfl, rfl, hown, hB⟩ := hrel
      have hsize := hB.size
      have HI := Lib.hid hI
      by_cases hjL : j < L
      · have ht : (I : Int) < (K : Int) := by omega
        have hIK : I < K := by omega
        have zb := dd_size U K
        have g1 := dd_byte U K I hIK (by rw [zb]; exact hIK)
        rw [show K - 1 - I = 2 * (L - 1 - j) by omega] at g1
        have d1 := dg_lt U (2 * (L - 1 - j))
        obtain ⟨hh, ehh⟩ : ∃ hh, dg U (2 * (L - 1 - j)) = hh := ⟨_, rfl⟩
        rw [ehh] at g1 d1
        have q1 : ((48 : Int) + (hh : Int) - 48) % 256 = (hh : Int) := by omega
        have q1b : (48 : Int) + (hh : Int) - 48 = (hh : Int) := by omega
        have q2 : (hh : Int) * 16 % 256 = (hh : Int) * 16 := by omega
        have wI : IntKind.i64.wrap ((I : Int) + 1) = (I : Int) + 1 := IntWalk.i64_in _ (by omega)
        have wI2 : IntKind.i64.wrap ((I : Int) + 2) = (I : Int) + 2 := IntWalk.i64_in _ (by omega)
        by_cases hlast : j + 1 < L
        · have ht2 : (I : Int) + 1 < (K : Int) := by omega
          have hIK2 : I + 1 < K := by omega
          have g2 := dd_byte U K (I + 1) hIK2 (by rw [zb]; exact hIK2)
          rw [show K - 1 - (I + 1) = 2 * (L - 1 - j) - 1 by omega] at g2
          have d2 := dg_lt U (2 * (L - 1 - j) - 1)
          obtain ⟨ll, ell⟩ : ∃ ll, dg U (2 * (L - 1 - j) - 1) = ll := ⟨_, rfl⟩
          rw [ell] at g2 d2
          have q3 : ((48 : Int) + (ll : Int) - 48) % 256 = (ll : Int) := by omega
          have q3b : (48 : Int) + (ll : Int) - 48 = (ll : Int) := by omega
          have hor : bits .or .u8 ((hh : Int) * 16) (ll : Int) = ((pb U 13 (L - 1 - j) : Nat) : Int) := by
            rw [or_half' d1 (by omega)]
            unfold pb
            rw [if_neg (by omega), ehh, ell]
          clear hI
          go_wp2_with (at_builtin; (refine wpList_append_own _ rfl _ _ 67 rfl w.heap.size 5 i0 (.int .u8 0) 1 1 Try.underlying67 hi hz0 hz1 hz2 rfl (by decide) _ _ _ rfl (hown.alloc _) ⟨wr.heap.size, 0, none⟩ 1 1 [.int .u8 ((pb U 13 (L - 1 - j) : Nat) : Int)] rfl rfl (cell_one_new _ _ _) (fun x hx => by simp at hx; subst hx; rfl) (by unfold maxLen; omega) (by omega) (by simp; omega) ?_; intro v' w3 hown' hgrow3 hnil3))
          obtain ⟨g3, cap3, rfl⟩ : ∃ g3 cap3, v' = .slice (some ⟨g3, 0, none⟩) (j + 1) cap3 := by
            rcases hown'.2 with ⟨_, h⟩ | ⟨g3, cap3, _, h, _⟩
            · omega
            · exact ⟨g3, cap3, h⟩
          exact ⟨⟨j + 1, I + 2, some ⟨g3, 0, none⟩, cap3, by omega, by have := HI.out; omega, rfl, rfl, by rw [pxs_succ]; exact hown', (hB.alloc hsize _).grown hgrow3 (by simp; omega) (fun q hq => (hown.lt q hq).1)⟩, by simp [intOf]; omega⟩
        · have ht2 : ¬ (I : Int) + 1 < (K : Int) := by omega
          have hor : bits .or .u8 ((hh : Int) * 16) (13 : Int) = ((pb U 13 (L - 1 - j) : Nat) : Int) := by
            have h0 : bits .or .u8 ((hh : Int) * 16) (13 : Int) = ((hh * 16 + 13 : Nat) : Int) := or_half' (y := 13) d1 (by decide)
            rw [h0]
            unfold pb
            rw [if_pos (by omega), ehh]
          clear hI
          go_wp2_with (at_builtin; (refine wpList_append_own _ rfl _ _ 67 rfl w.heap.size 5 i0 (.int .u8 0) 1 1 Try.underlying67 hi hz0 hz1 hz2 rfl (by decide) _ _ _ rfl (hown.alloc _) ⟨wr.heap.size, 0, none⟩ 1 1 [.int .u8 ((pb U 13 (L - 1 - j) : Nat) : Int)] rfl rfl (cell_one_new _ _ _) (fun x hx => by simp at hx; subst hx; rfl) (by unfold maxLen; omega) (by omega) (by simp; omega) ?_; intro v' w3 hown' hgrow3 hnil3))
          obtain ⟨g3, cap3, rfl⟩ : ∃ g3 cap3, v' = .slice (some ⟨g3, 0, none⟩) (j + 1) cap3 := by
            rcases hown'.2 with ⟨_, h⟩ | ⟨g3, cap3, _, h, _⟩
            · omega
            · exact ⟨g3, cap3, h⟩
          exact ⟨⟨j + 1, I + 2, some ⟨g3, 0, none⟩, cap3, by omega, by have := HI.out; omega, rfl, rfl, by rw [pxs_succ]; exact hown', (hB.alloc hsize _).grown hgrow3 (by simp; omega) (fun q hq => (hown.lt q hq).1)⟩, by simp [intOf]; omega⟩
      · obtain rfl : j = L := by omega
        have ht : ¬ (I : Int) < (K : Int) := by omega
        clear hI
        have hcv := conv_own U 13 j wr w.heap.size ao cv (by decide) hL2 hown
        go_wp2
        go_ret2
        exact ⟨rfl, hB⟩
set_option maxRecDepth 100000 in
set_option maxHeartbeats 4000000 in
theorem rpack_false (x : List UInt8) (U s d : Nat) (w : World) (TO : ∀ w, Calls Try.prog 17 #[.string ⟨x.toArray⟩, .int .i64 d, .int .i64 s] w fun e w' => e = .returned (.tuple #[.string ⟨(txt false U s).toArray⟩, .int .i64 0]) ∧ Below w.heap.size w w')
    (RD : ∀ w, Calls Try.prog 41 #[.string ⟨(txt false U s).toArray⟩] w fun e w' => e = .returned (.tuple #[.agg (rcells false U s), .bool true]) ∧ Below w.heap.size w w') (h1 : 1 ≤ d) (h2 : d ≤ 31) (hU : dl U ≤ d) :
    Calls Try.prog 19 #[.string ⟨x.toArray⟩, .int .i64 d, .int .i64 s] w fun e w' => e = .returned (.tuple #[.string ⟨(packB U 12 (d / 2 + 1)).toArray⟩, .int .i64 0]) ∧ Below w.heap.size w w' := by
  obtain ⟨i0, hi, hz0, hz1, hz2⟩ := info_parts (P := Try.prog) (e := 5) (z := .int .u8 0) (size := 1) (bytes := 1) (by kernel_rfl)
  obtain ⟨L, hL⟩ : ∃ L, d / 2 + 1 = L := ⟨_, rfl⟩
  obtain ⟨K, hK⟩ : ∃ K, 2 * L - 1 = K := ⟨_, rfl⟩
  have hL2 : 1 ≤ L := by omega
  have hL3 : L ≤ 16 := by omega
  have e1 : (d : Int) / 2 = (L : Int) - 1 := by omega
  have e2 : ((L : Int) - 1) * 2 + 1 = (K : Int) := by omega
  have w1 : IntKind.i64.wrap ((L : Int) - 1) = (L : Int) - 1 := IntWalk.i64_in _ (by omega)
  have w2 : IntKind.i64.wrap (((L : Int) - 1) * 2) = ((L : Int) - 1) * 2 := IntWalk.i64_in _ (by omega)
  have w3 : IntKind.i64.wrap (K : Int) = (K : Int) := IntWalk.i64_in _ (by omega)
  have hUK : dl U ≤ K := by omega
  have zu := ds_length U
  have zK := dd_length U K
  rw [hL]
  have TO' := Lib.hid TO
  have RD' := Lib.hid RD
  clear TO RD
  obtain ⟨z, hz⟩ : ∃ z, K - dl U = z := ⟨_, rfl⟩
  have hz' : (K : Int) - (dl U : Int) = (z : Int) := by omega
  have wz : IntKind.i64.wrap (z : Int) = (z : Int) := IntWalk.i64_in _ (by omega)
  have zz := dd_length 0 z
  have ZE := Lib.hid (fun w => zeros_dds z w (by omega))
  have pad : dd 0 z ++ ds U = dd U K := by
    unfold ds
    rw [dd_pad U (dl U) z (lt_pow_dl U)]
    congr 1; omega
  have hfull : ¬ dl U < K → ds U = dd U K := fun h => by
    have : z = 0 := by omega
    rw [this] at pad
    rw [← pad]
    unfold dd; rfl
  by_cases hlt : dl U < K
  all_goals first | (have hlt' : (dl U : Int) < (K : Int) := (by omega)) | (have hlt' : ¬ (dl U : Int) < (K : Int) := (by omega); have hds := hfull hlt)
  all_goals
    clear hfull
    go_enter Try.func19, Try.ntmps19
    go_wp2_with (first
      | (go_at_call 17; refine (TO'.out _).mono ?_; rintro e w1 ⟨rfl, hb⟩; have K1 := (Blk.nil w).kept hb; clear hb)
      | (go_at_call 41; refine (RD'.out _).mono ?_; rintro e w2 ⟨rfl, hb⟩; have K2 := K1.kept hb; clear hb)
      | (go_at_call 49; refine (ZE.out _).mono ?_; rintro e w3 ⟨rfl, rfl⟩))
    have B0 := (K2.more (.cells (rcells false U s) 50)).below
    go_loopw [15, 16] (fun s15 s16 W => ∃ (j I : Nat) (ao : Option Addr) (cv : Nat), j ≤ L ∧ I = 2 * j ∧ s16 = .int .i64 (I : Int) ∧ s15 = .slice ao j cv ∧ W.ownsRow w.heap.size 5 1 s15 j (pxs U 12 L j) ∧ Below w.heap.size w W) (fun _ s16 _ => 2 * L - (intOf s16).toNat)
    case atStart => exact ⟨0, 0, none, 0, by omega, rfl, rfl, rfl, by rw [pxs_zero]; exact World.ownsRow_nil _ _ _ _, B0⟩
    case round =>
      obtain ⟨j, I, ao, cv, hj, hI, rfl, rfl, hown, hB⟩ := hrel
      have hsize := hB.size
      have HI := Lib.hid hI
      by_cases hjL : j < L
      · have ht : (I : Int) < (K : Int) := by omega
        have hIK : I < K := by omega
        have zb := dd_size U K
        have g1 := dd_byte U K I hIK (by rw [zb]; exact hIK)
        rw [show K - 1 - I = 2 * (L - 1 - j) by omega] at g1
        have d1 := dg_lt U (2 * (L - 1 - j))
        obtain ⟨hh, ehh⟩ : ∃ hh, dg U (2 * (L - 1 - j)) = hh := ⟨_, rfl⟩
        rw [ehh] at g1 d1
        have q1 : ((48 : Int) + (hh : Int) - 48) % 256 = (hh : Int) := by omega
        have q1b : (48 : Int) + (hh : Int) - 48 = (hh : Int) := by omega
        have q2 : (hh : Int) * 16 % 256 = (hh : Int) * 16 := by omega
        have wI : IntKind.i64.wrap ((I : Int) + 1) = (I : Int) + 1 := IntWalk.i64_in _ (by omega)
        have wI2 : IntKind.i64.wrap ((I : Int) + 2) = (I : Int) + 2 := IntWalk.i64_in _ (by omega)
        by_cases hlast : j + 1 < L
        · have ht2 : (I : Int) + 1 < (K : Int) := by omega
          have hIK2 : I + 1 < K := by omega
          have g2 := dd_byte U K (I + 1) hIK2 (by rw [zb]; exact hIK2)
          rw [show K - 1 - (I + 1) = 2 * (L - 1 - j) - 1 by omega] at g2
          have d2 := dg_lt U (2 * (L - 1 - j) - 1)
          obtain ⟨ll, ell⟩ : ∃ ll, dg U (2 * (L - 1 - j) - 1) = ll := ⟨_, rfl⟩
          rw [ell] at g2 d2
          have q3 : ((48 : Int) + (ll : Int) - 48) % 256 = (ll : Int) := by omega
          have q3b : (48 : Int) + (ll : Int) - 48 = (ll : Int) := by omega
          have hor : bits .or .u8 ((hh : Int) * 16) (ll : Int) = ((pb U 12 (L - 1 - j) : Nat) : Int) := by
            rw [or_half' d1 (by omega)]
            unfold pb
            rw [if_neg (by omega), ehh, ell]
          clear hI
          go_wp2_with (at_builtin; (refine wpList_append_own _ rfl _ _ 67 rfl w.heap.size 5 i0 (.int .u8 0) 1 1 Try.underlying67 hi hz0 hz1 hz2 rfl (by decide) _ _ _ rfl (hown.alloc _) ⟨wr.heap.size, 0, none⟩ 1 1 [.int .u8 ((pb U 12 (L - 1 - j) : Nat) : Int)] rfl rfl (cell_one_new _ _ _) (fun x hx => by simp at hx; subst hx; rfl) (by unfold maxLen; omega) (by omega) (by simp; omega) ?_; intro v' w3 hown' hgrow3 hnil3))
          obtain ⟨g3, cap3, rfl⟩ : ∃ g3 cap3, v' = .slice (some ⟨g3, 0, none⟩) (j + 1) cap3 := by
            rcases hown'.2 with ⟨_, h⟩ | ⟨g3, cap3, _, h, _⟩
            · omega
            · exact ⟨g3, cap3, h⟩
          exact ⟨⟨j + 1, I + 2, some ⟨g3, 0, none⟩, cap3, by omega, by have := HI.out; omega, rfl, rfl, by rw [pxs_succ]; exact hown', (hB.alloc hsize _).grown hgrow3 (by simp; omega) (fun q hq => (hown.lt q hq).1)⟩, by simp [intOf]; omega⟩
        · have ht2 : ¬ (I : Int) + 1 < (K : Int) := by omega
          have hor : bits .or .u8 ((hh : Int) * 16) (12 : Int) = ((pb U 12 (L - 1 - j) : Nat) : Int) := by
            have h0 : bits .or .u8 ((hh : Int) * 16) (12 : Int) = ((hh * 16 + 12 : Nat) : Int) := or_half' (y := 12) d1 (by decide)
            rw [h0]
            unfold pb
            rw [if_pos (by omega), ehh]
          clear hI
          go_wp2_with (at_builtin; (refine wpList_append_own _ rfl _ _ 67 rfl w.heap.size 5 i0 (.int .u8 0) 1 1 Try.underlying67 hi hz0 hz1 hz2 rfl (by decide) _ _ _ rfl (hown.alloc _) ⟨wr.heap.size, 0, none⟩ 1 1 [.int .u8 ((pb U 12 (L - 1 - j) : Nat) : Int)] rfl rfl (cell_one_new _ _ _) (fun x hx => by simp at hx; subst hx; rfl) (by unfold maxLen; omega) (by omega) (by simp; omega) ?_; intro v' w3 hown' hgrow3 hnil3))
          obtain ⟨g3, cap3, rfl⟩ : ∃ g3 cap3, v' = .slice (some ⟨g3, 0, none⟩) (j + 1) cap3 := by
            rcases hown'.2 with ⟨_, h⟩ | ⟨g3, cap3, _, h, _⟩
            · omega
            · exact ⟨g3, cap3, h⟩
          exact ⟨⟨j + 1, I + 2, some ⟨g3, 0, none⟩, cap3, by omega, by have := HI.out; omega, rfl, rfl, by rw [pxs_succ]; exact hown', (hB.alloc hsize _).grown hgrow3 (by simp; omega) (fun q hq => (hown.lt q hq).1)⟩, by simp [intOf]; omega⟩
      · obtain rfl : j = L := by omega
        have ht : ¬ (I : Int) < (K : Int) := by omega
        clear hI
        have hcv := conv_own U 12 j wr w.heap.size ao cv (by decide) hL2 hown
        go_wp2
        go_ret2
        exact ⟨rfl, hB⟩
set_option maxRecDepth 100000 in
set_option maxHeartbeats 2000000 in
theorem rpack_none (x : List UInt8) (s d : Int) (e : Int) (w : World) (TO : ∀ w, Calls Try.prog 17 #[.string ⟨x.toArray⟩, .int .i64 d, .int .i64 s] w fun e' w' => e' = .returned (.tuple #[.string ⟨#[]⟩, .int .i64 e]) ∧ Below w.heap.size w w') (he : e ≠ 0) :
    Calls Try.prog 19 #[.string ⟨x.toArray⟩, .int .i64 d, .int .i64 s] w fun e' w' => e' = .returned (.tuple #[.string ⟨#[]⟩, .int .i64 e]) ∧ Below w.heap.size w w' := by
  have TO' := Lib.hid TO
  clear TO
  go_enter Try.func19, Try.ntmps19
  go_wp2_with (go_at_call 17; refine (TO'.out _).mono ?_; rintro e w1 ⟨rfl, hb⟩; have K1 := (Blk.nil w).kept hb; clear hb)
  go_ret2
  exact ⟨rfl, K1.below⟩
theorem rpack_all (l : List UInt8) (d s : Int) (w : World) (hl : l.length ≤ 500) :
    Calls Try.prog 19 #[.string ⟨l.toArray⟩, .int .i64 d, .int .i64 s] w fun e w' => e = .returned (.tuple #[.string ⟨(packR l d s).1.toArray⟩, .int .i64 (packR l d s).2]) ∧ Below w.heap.size w w' := by
  have TO : ∀ w, _ := fun w => rto_all l d s w hl
  by_cases h : (toR l d s).2 = 0
  · obtain ⟨hp, hf, n, rfl, hn, hd, hd2, e⟩ := toR_yes h
    obtain ⟨d1, d2, d3, d4⟩ := fmB_of hf
    obtain ⟨D, rfl⟩ : ∃ D : Nat, d = D := ⟨d.toNat, by omega⟩
    have ep : packR l D n = (packB (scU (uOf l) (sOf l) n) (sgB (sgn (negOf l) (scU (uOf l) (sOf l) n))) (D / 2 + 1), 0) := by
      unfold packR; rw [if_pos h, Int.toNat_natCast, Int.toNat_natCast]
    rw [ep]
    rw [e, ← txt_sgn] at TO
    obtain ⟨q1, q2, q3, q4, q5⟩ := txt_parts (N := negOf l) hd hn
    have RD : ∀ w, _ := fun w => read_y w q5 q1
    rw [q2, q3, q4, ← txt_sgn] at RD
    generalize scU (uOf l) (sOf l) n = U at *
    cases hb : sgn (negOf l) U with
    | false => rw [hb] at TO RD; exact rpack_false l U n D w TO RD (by omega) (by omega) (by omega)
    | true => rw [hb] at TO RD; exact rpack_true l U n D w TO RD (by omega) (by omega) (by omega)
  · have ep : packR l d s = ([], (toR l d s).2) := by unfold packR; rw [if_neg h]
    rw [ep]
    rw [toR_none h] at TO
    exact rpack_none l s d _ w TO h
end Go.Proofs.Ytkcogoibaodbeaa
namespace Go.Proofs.Ytkcogoibaodbeaa
open Go.RowKit
attribute [local go_sem] ByteArray.mk_append_mk ByteArray.extract_mk
theorem and15 : ∀ x : Fin 256, bits .and .u8 (x.val : Int) 15 = ((x.val % 16 : Nat) : Int) := by decide +kernel
theorem and15' (c : UInt8) : bits .and .u8 (c.toNat : Int) 15 = ((c.toNat % 16 : Nat) : Int) := and15 ⟨c.toNat, c.toNat_lt⟩
theorem conv_drew (W : World) (d : Nat) (hd : d < 10) :
    (convert 67 9 (.slice (some ⟨W.heap.size, 0, none⟩) 1 1)).run Try.prog (W.alloc (.cells #[.int .u8 (48 + (d : Int))] 5)).drew = .ok (.string ⟨#[chr d]⟩) (W.alloc (.cells #[.int .u8 (48 + (d : Int))] 5)).drew := conv_one W.drew d hd
theorem conv_drew2 (W : World) (o : Obj) (d : Nat) (hd : d < 10) :
    (convert 67 9 (.slice (some ⟨W.heap.size + 1, 0, none⟩) 1 1)).run Try.prog ((W.alloc o).alloc (.cells #[.int .u8 (48 + (d : Int))] 5)).drew = .ok (.string ⟨#[chr d]⟩) ((W.alloc o).alloc (.cells #[.int .u8 (48 + (d : Int))] 5)).drew := by
  have h := conv_drew (W.alloc o) d hd
  rw [World.size_alloc] at h
  exact h
attribute [local irreducible] ds dd txt
set_option maxRecDepth 100000 in
set_option maxHeartbeats 4000000 in
theorem runpack_form (l : List UInt8) (d s : Int) (w : World) (h : fmB d s = false) :
    Calls Try.prog 23 #[.string ⟨l.toArray⟩, .int .i64 d, .int .i64 s] w fun e w' => e = .returned (.tuple #[.string ⟨#[]⟩, .int .i64 0, .int .i64 7]) ∧ Below w.heap.size w w' := by
  have RA := fun w => ranged_any d s w
  rw [h] at RA
  have RA' := Lib.hid RA
  clear RA
  go_enter Try.func23, Try.ntmps23
  go_wp2_with (go_at_call 54; refine (RA'.out _).mono ?_; rintro e w2 ⟨rfl, hw⟩; obtain rfl := hw.symm)
  go_ret3
  exact ⟨rfl, Below.refl _ _⟩
set_option maxRecDepth 100000 in
set_option maxHeartbeats 4000000 in
theorem runpack_size (l : List UInt8) (d s : Int) (w : World) (h : fmB d s = true) (hl : ¬ (l.length : Int) = d / 2 + 1) :
    Calls Try.prog 23 #[.string ⟨l.toArray⟩, .int .i64 d, .int .i64 s] w fun e w' => e = .returned (.tuple #[.string ⟨#[]⟩, .int .i64 0, .int .i64 11]) ∧ Below w.heap.size w w' := by
  have RA := fun w => ranged_any d s w
  obtain ⟨d1, d2, d3, d4⟩ := fmB_of h
  rw [h] at RA
  have RA' := Lib.hid RA
  have hl' : ((l.length : Int) == d / 2 + 1) = false := by simpa using hl
  have w1 : IntKind.i64.wrap (d / 2) = d / 2 := IntWalk.i64_in _ (by omega)
  have w2 : IntKind.i64.wrap (d / 2 + 1) = d / 2 + 1 := IntWalk.i64_in _ (by omega)
  have e1 : d.tdiv 2 = d / 2 := Int.tdiv_eq_ediv_of_nonneg (by omega)
  clear RA
  go_enter Try.func23, Try.ntmps23
  go_wp2_with (go_at_call 54; refine (RA'.out _).mono ?_; rintro e w2 ⟨rfl, hw⟩; obtain rfl := hw.symm)
  go_ret3
  exact ⟨rfl, Below.refl _ _⟩
set_option maxRecDepth 100000 in
set_option maxHeartbeats 8000000 in
theorem runpack_walk (l : List UInt8) (D n : Nat) (w : World) (h : fmB D n = true) (hl : l.length = D / 2 + 1) :
    Calls Try.prog 23 #[.string ⟨l.toArray⟩, .int .i64 D, .int .i64 n] w fun e w' => e = .returned (.tuple #[.string ⟨(unpT n (unpk l.length (decide ((D : Int) % 2 = 0)) l 0 0)).1.toArray⟩, .int .i64 (unpT n (unpk l.length (decide ((D : Int) % 2 = 0)) l 0 0)).2.1, .int .i64 (unpT n (unpk l.length (decide ((D : Int) % 2 = 0)) l 0 0)).2.2]) ∧ Below w.heap.size w w' := by
  have RA := fun w => ranged_any D n w
  obtain ⟨d1, d2, d3, d4⟩ := fmB_of h
  rw [h] at RA
  have RA' := Lib.hid RA
  obtain ⟨L, hL⟩ : ∃ L, l.length = L := ⟨_, rfl⟩
  have hL1 : (l.length : Int) = (L : Int) := by omega
  have hdL : (D : Int) / 2 + 1 = (L : Int) := by omega
  have hL16 : L ≤ 16 := by omega
  have hL0 : 1 ≤ L := by omega
  have w1 : IntKind.i64.wrap ((D : Int) / 2) = (D : Int) / 2 := IntWalk.i64_in _ (by omega)
  have w2 : IntKind.i64.wrap (L : Int) = (L : Int) := IntWalk.i64_in _ (by omega)
  have w3 : IntKind.i64.wrap ((L : Int) - 1) = (L : Int) - 1 := IntWalk.i64_in _ (by omega)
  obtain ⟨ev, hev⟩ : ∃ ev, decide ((D : Int) % 2 = 0) = ev := ⟨_, rfl⟩
  have evT : ev = true → (D : Int) % 2 = 0 := fun e => by rw [← hev] at e; simpa using e
  have evF : ev = false → ¬ (D : Int) % 2 = 0 := fun e => by rw [← hev] at e; simpa using e
  rw [hL, hev]
  obtain ⟨R, hR⟩ : ∃ R, unpk L ev l 0 0 = R := ⟨_, rfl⟩
  rw [hR]
  clear RA h
  go_enter Try.func23, Try.ntmps23
  go_wp2_with (go_at_call 54; refine (RA'.out _).mono ?_; rintro e w2 ⟨rfl, hw⟩; obtain rfl := hw.symm)
  go_loopw [9, 10, 26] (fun s9 s10 s26 W => ∃ (i u k : Nat) (b : Bool), i ≤ L ∧ s26 = .int .i64 (i : Int) ∧ s10 = .bool b ∧ s9 = .string ⟨(dd u k).toArray⟩ ∧ u < 10 ^ k ∧
    ((i < L ∧ k = 2 * i ∧ b = false ∧ unpk L ev (l.drop i) i u = R) ∨ (i = L ∧ k = 2 * L - 1 ∧ R = .inr (b, u))) ∧ Below w.heap.size w W) (fun _ _ s26 _ => L - (intOf s26).toNat)
  case atStart => exact ⟨0, 0, 0, false, by omega, rfl, rfl, by rw [dd_0], by decide, Or.inl ⟨by omega, rfl, rfl, by rw [List.drop_zero]; exact hR⟩, Below.refl _ _⟩
  case round =>
    obtain ⟨i, u, k, b, hi, rfl, rfl, rfl, hu, hc, hB⟩ := hrel
    rcases hc with ⟨hlt, rfl, rfl, hs⟩ | ⟨rfl, rfl, hs⟩
    · have ht : (i : Int) < (L : Int) := by omega
      have hlt' : i < l.length := by omega
      rw [List.drop_eq_getElem_cons hlt', unpk] at hs
      obtain ⟨c, hc⟩ : ∃ c, l[i] = c := ⟨_, rfl⟩
      have hg : ((ByteArray.mk l.toArray)[i]'(by simpa [ByteArray.size] using hlt')).toNat = c.toNat := by rw [← hc]; rfl
      have ha := and15' c
      have hsz : (ByteArray.mk l.toArray).size = L := by rw [← hL]; rfl
      obtain ⟨C, hC⟩ : ∃ C, c.toNat = C := ⟨_, rfl⟩
      have hC256 : C < 256 := by rw [← hC]; exact c.toNat_lt
      rw [hC] at hg ha
      simp only [hc, hC] at hs
      obtain ⟨hh, ehh⟩ : ∃ hh, C / 16 = hh := ⟨_, rfl⟩
      obtain ⟨ll, ell⟩ : ∃ ll, C % 16 = ll := ⟨_, rfl⟩
      rw [ell] at ha
      rw [ehh, ell] at hs
      have wi : IntKind.i64.wrap ((i : Int) + 1) = (i : Int) + 1 := IntWalk.i64_in _ (by omega)
      have ehh' : (C : Int) / 16 = (hh : Int) := by omega
      have hll : ll < 16 := by omega
      have zu := dd_length u (2 * i)
      have bad : ∀ (P : Prop), P → R = .inl i → (unpT n R = ([], (i : Int), 12)) := fun P _ e => by rw [e]; rfl
      by_cases h1 : 9 < hh ∨ (i = 0 ∧ ev = true ∧ hh ≠ 0)
      · rw [if_pos h1] at hs
        have hbad : unpT n R = ([], (i : Int), 12) := by rw [← hs]; rfl
        have h2 : (9 : Int) < (hh : Int) ∨ (¬ (9 : Int) < (hh : Int) ∧ ((i : Int) == 0) = true ∧ (D : Int) % 2 = 0 ∧ ((hh : Int) != 0) = true) := by
          by_cases h9 : 9 < hh
          · exact Or.inl (by omega)
          · rcases h1 with h1 | ⟨h1, h2, h3⟩
            · exact absurd h1 h9
            · exact Or.inr ⟨by omega, by simpa using h1, evT h2, by simpa using h3⟩
        clear hs h1
        rcases h2 with h2 | ⟨h2, h3, h4, h5⟩
        all_goals
          go_wp2
          go_region
          go_wp2
          go_ret3
          all_goals exact ⟨by rw [hbad]; rfl, hB.drew⟩
      · rw [if_neg h1] at hs
        have hh9 : hh < 10 := by omega
        have h9 : ¬ (9 : Int) < (hh : Int) := by omega
        have hG : ((i : Int) == 0) = false ∨ (((i : Int) == 0) = true ∧ ¬ (D : Int) % 2 = 0) ∨ (((i : Int) == 0) = true ∧ (D : Int) % 2 = 0 ∧ ((hh : Int) != 0) = false) := by
          by_cases hi0 : i = 0
          · cases he : ev with
            | false => exact Or.inr (Or.inl ⟨by simpa using hi0, evF he⟩)
            | true => exact Or.inr (Or.inr ⟨by simpa using hi0, evT he, by
                have : hh = 0 := by
                  rcases Nat.eq_zero_or_pos hh with h | h
                  · exact h
                  · exact absurd (Or.inr ⟨hi0, he, by omega⟩) h1
                simpa using this⟩)
          · exact Or.inl (by simpa using hi0)
        have hcv1 := fun W => conv_drew W hh hh9
        have cat1 : dd u (2 * i) ++ [chr hh] = dd (u * 10 + hh) (2 * i + 1) := (dd_snoc u (2 * i) hh hh9).symm
        have z1 := dd_length (u * 10 + hh) (2 * i + 1)
        have w8 : ((48 : Int) + (hh : Int)) % 256 = 48 + (hh : Int) := by omega
        have w8' : IntKind.u8.wrap ((48 : Int) + (hh : Int)) = 48 + (hh : Int) := IntWalk.u8_in _ (by omega)
        have hu1 : u * 10 + hh < 10 ^ (2 * i + 1) := by rw [Nat.pow_succ]; omega
        clear h1
        by_cases h2 : i + 1 < L
        · rw [if_pos h2] at hs
          have t2 : (i : Int) < (L : Int) - 1 := by omega
          by_cases h3 : 9 < ll
          · rw [if_pos h3] at hs
            have hbad : unpT n R = ([], (i : Int), 12) := by rw [← hs]; rfl
            have t3 : (9 : Int) < (ll : Int) := by omega
            clear hs
            rcases hG with h4 | ⟨h4, h5⟩ | ⟨h4, h5, h6⟩
            all_goals
              go_wp2
              go_region
              go_wp2
              go_ret3
              exact ⟨by rw [hbad]; rfl, (hB.alloc hB.size _).drew⟩
          · rw [if_neg h3] at hs
            have t3 : ¬ (9 : Int) < (ll : Int) := by omega
            have hl9 : ll < 10 := by omega
            have hcv2 := fun W o => conv_drew2 W o ll hl9
            have cat2 : dd (u * 10 + hh) (2 * i + 1) ++ [chr ll] = dd ((u * 10 + hh) * 10 + ll) (2 * i + 1 + 1) := (dd_snoc (u * 10 + hh) (2 * i + 1) ll hl9).symm
            have w9 : ((48 : Int) + (ll : Int)) % 256 = 48 + (ll : Int) := by omega
            have w9' : IntKind.u8.wrap ((48 : Int) + (ll : Int)) = 48 + (ll : Int) := IntWalk.u8_in _ (by omega)
            have hs' : unpk L ev (l.drop (i + 1)) (i + 1) ((u * 10 + hh) * 10 + ll) = R := by
              rw [← hs]; congr 1; omega
            have hu2 : (u * 10 + hh) * 10 + ll < 10 ^ (2 * i + 1 + 1) := by rw [Nat.pow_succ 10 (2 * i + 1)]; omega
            clear hs
            rcases hG with h4 | ⟨h4, h5⟩ | ⟨h4, h5, h6⟩
            all_goals
              go_wp2
              go_region
              go_wp2
              exact ⟨⟨i + 1, (u * 10 + hh) * 10 + ll, 2 * i + 1 + 1, false, by omega, rfl, rfl, rfl, hu2, Or.inl ⟨h2, by omega, rfl, hs'⟩, ((hB.alloc hB.size _).alloc (by simp; have := hB.size; omega) _).drew⟩, by simp [intOf]; omega⟩
        · rw [if_neg h2] at hs
          have t2 : ¬ (i : Int) < (L : Int) - 1 := by omega
          have hiL : i + 1 = L := by omega
          have BA := Lib.hid (fun w => bare_any (u * 10 + hh) (2 * i + 1) w hu1 (by omega))
          have hbq := ds_beq (u * 10 + hh)
          by_cases h3 : (ll ≠ 12 ∧ ll ≠ 13) ∨ (ll = 13 ∧ u * 10 + hh = 0)
          · rw [if_pos h3] at hs
            have hbad : unpT n R = ([], (i : Int), 12) := by rw [← hs]; rfl
            have hL3 : (((ll : Int) == 13) = false ∧ ((ll : Int) != 12) = true) ∨ (((ll : Int) == 13) = true ∧ (ds (u * 10 + hh) == [48]) = true) := by
              rcases h3 with ⟨a1, a2⟩ | ⟨a1, a2⟩
              · exact Or.inl ⟨by simp; omega, by simp; omega⟩
              · exact Or.inr ⟨by simp; omega, by rw [hbq, a2]; rfl⟩
            clear hs h3 hbq
            rcases hL3 with ⟨a1, a2⟩ | ⟨a1, a2⟩
            all_goals rcases hG with h4 | ⟨h4, h5⟩ | ⟨h4, h5, h6⟩
            all_goals
              go_wp2
              go_region
              go_wp2_with (go_at_call 59; refine (BA.out _).mono ?_; rintro e w4 ⟨rfl, hw4⟩; obtain rfl := hw4.symm)
              all_goals go_ret3
              all_goals exact ⟨by rw [hbad]; rfl, (hB.alloc hB.size _).drew⟩
          · rw [if_neg h3] at hs
            have hL3 : (((ll : Int) == 13) = false ∧ ((ll : Int) != 12) = false ∧ (ll == 13) = false) ∨ (((ll : Int) == 13) = true ∧ (ds (u * 10 + hh) == [48]) = false ∧ (ll == 13) = true) := by
              by_cases h13 : ll = 13
              · refine Or.inr ⟨by simp; omega, ?_, by simp; omega⟩
                rw [hbq, beq_eq_false_iff_ne]; intro e; exact h3 (Or.inr ⟨h13, e⟩)
              · have : ll = 12 := by
                  rcases Nat.lt_or_ge ll 12 with h | h
                  · exact absurd (Or.inl ⟨by omega, h13⟩) h3
                  · by_cases h12 : ll = 12
                    · exact h12
                    · exact absurd (Or.inl ⟨h12, h13⟩) h3
                exact Or.inl ⟨by simp; omega, by simp; omega, by simp; omega⟩
            clear h3 hbq
            rcases hL3 with ⟨a1, a2, a3⟩ | ⟨a1, a2, a3⟩
            all_goals rw [a3] at hs
            all_goals rcases hG with h4 | ⟨h4, h5⟩ | ⟨h4, h5, h6⟩
            all_goals
              go_wp2
              go_region
              go_wp2_with (go_at_call 59; refine (BA.out _).mono ?_; rintro e w4 ⟨rfl, hw4⟩; obtain rfl := hw4.symm)
              all_goals exact ⟨⟨i + 1, u * 10 + hh, 2 * i + 1, _, by omega, rfl, rfl, rfl, hu1, Or.inr ⟨hiL, by omega, hs.symm⟩, (hB.alloc hB.size _).drew⟩, by simp [intOf]; omega⟩
    · have ht : ¬ (i : Int) < (i : Int) := by omega
      have MA := Lib.hid (fun w => made_any b u (2 * i - 1) n w hu (by omega))
      have hud : dl u ≤ 400 := by
        refine Nat.le_trans (dl_le_of (k := 2 * i - 1) (by omega) hu) (by omega)
      have TX := Lib.hid (fun w => rtext_any b u n w (by omega) hud)
      have hgood : unpT n R = (txt b u n, 0, 0) := by rw [hs]; rfl
      go_wp2_with (first
        | (go_at_call 47; refine (MA.out _).mono ?_; rintro e w4 ⟨rfl, hb⟩; have B4 := hB.trans (hb.mono hB.size); clear hb)
        | (go_at_call 57; refine (TX.out _).mono ?_; rintro e w5 ⟨rfl, hb⟩; have B5 := B4.trans (hb.mono B4.size); clear hb))
      go_ret3
      exact ⟨by rw [hgood]; rfl, B5⟩
theorem runpack_all (l : List UInt8) (d s : Int) (w : World) :
    Calls Try.prog 23 #[.string ⟨l.toArray⟩, .int .i64 d, .int .i64 s] w fun e w' => e = .returned (.tuple #[.string ⟨(unpackR l d s).1.toArray⟩, .int .i64 (unpackR l d s).2.1, .int .i64 (unpackR l d s).2.2]) ∧ Below w.heap.size w w' := by
  unfold unpackR
  cases hf : fmB d s with
  | false => rw [if_neg (by decide)]; exact runpack_form l d s w hf
  | true =>
    rw [if_pos rfl]
    obtain ⟨d1, d2, d3, d4⟩ := fmB_of hf
    obtain ⟨D, rfl⟩ : ∃ D : Nat, d = D := ⟨d.toNat, by omega⟩
    obtain ⟨n, rfl⟩ : ∃ n : Nat, s = n := ⟨s.toNat, by omega⟩
    by_cases hl : (l.length : Int) = (D : Int) / 2 + 1
    · rw [if_pos hl, Int.toNat_natCast]
      exact runpack_walk l D n w hf (by omega)
    · rw [if_neg hl]
      exact runpack_size l D n w hf hl
end Go.Proofs.Ytkcogoibaodbeaa
