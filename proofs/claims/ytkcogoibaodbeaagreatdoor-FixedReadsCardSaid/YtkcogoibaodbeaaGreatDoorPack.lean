/- Pack. -/
import Derived.Test.YtkcogoibaodbeaaGreatDoorTo
import Derived.Deep.OwnRows
import Derived.Laws.IdiomStrings
set_option linter.unusedVariables false
set_option linter.unusedSimpArgs false
namespace Go.Proofs.YtkcogoibaodbeaaGreatDoor
open Go.RowKit
/-- The byte i from the right: two half bytes. -/
def pb (u sg i : Nat) : Nat := dg u (2 * i) * 16 + if i = 0 then sg else dg u (2 * i - 1)
/-- The row of bytes when the i last ones are laid. -/
def packC (u sg L i : Nat) : Array Value := Array.ofFn (n := L) fun k => if L - 1 - k.val < i then .int .u8 (pb u sg (L - 1 - k.val) : Nat) else .int .u8 0
@[simp] theorem packC_size (u sg L i : Nat) : (packC u sg L i).size = L := by simp [packC]
theorem packC_get (u sg L i k : Nat) (h : k < L) : (packC u sg L i)[k]? = some (if L - 1 - k < i then .int .u8 (pb u sg (L - 1 - k) : Nat) else .int .u8 0) := by
  unfold packC; rw [Array.getElem?_ofFn, dif_pos h]
theorem made_size (L : Nat) : (madeCells #[.int .u8 0] L).size = L := by simp [madeCells]
theorem packC_zero (u sg L : Nat) : madeCells #[.int .u8 0] L = packC u sg L 0 := by
  apply Array.ext_getElem?
  intro k
  by_cases h : k < L
  · rw [packC_get _ _ _ _ _ h, if_neg (by omega)]
    simp [madeCells, h, Nat.mod_one]
  · rw [Array.getElem?_eq_none (by rw [made_size]; omega), Array.getElem?_eq_none (by rw [packC_size]; omega)]
theorem packC_set (u sg L i : Nat) (h : i < L) : (packC u sg L i).setIfInBounds (L - 1 - i) (.int .u8 (pb u sg i : Nat)) = packC u sg L (i + 1) := by
  apply Array.ext_getElem?
  intro k
  by_cases hk : k < L
  · rw [Array.getElem?_setIfInBounds, packC_get _ _ _ _ _ hk, packC_get _ _ _ _ _ hk]
    split
    · rename_i e
      subst e
      rw [if_pos (by simp; omega), if_pos (by omega), show L - 1 - (L - 1 - i) = i by omega]
    · rename_i e
      by_cases h2 : L - 1 - k < i
      · rw [if_pos h2, if_pos (by omega)]
      · rw [if_neg h2, if_neg (by omega)]
  · rw [Array.getElem?_eq_none (by rw [Array.size_setIfInBounds, packC_size]; omega), Array.getElem?_eq_none (by rw [packC_size]; omega)]
def packB (u sg L : Nat) : List UInt8 := List.ofFn (n := L) fun k => UInt8.ofNat (pb u sg (L - 1 - k.val))
theorem or_half : ∀ x : Fin 10, ∀ y : Fin 16, bits .or .u8 ((x.val : Int) * 16) (y.val : Int) = ((x.val * 16 + y.val : Nat) : Int) := by decide
theorem or_half' {x y : Nat} (hx : x < 10) (hy : y < 16) : bits .or .u8 ((x : Int) * 16) (y : Int) = ((x * 16 + y : Nat) : Int) := or_half ⟨x, hx⟩ ⟨y, hy⟩
theorem pb_lt {u sg i : Nat} (h : sg < 16) : pb u sg i < 256 := by
  have h1 := dg_lt u (2 * i)
  have h2 := dg_lt u (2 * i - 1)
  unfold pb
  split <;> omega
@[simp] theorem packB_length (u sg L : Nat) : (packB u sg L).length = L := by simp [packB]
theorem conv_pack (u sg L : Nat) (W : World) (b : Nat) (hsg : sg < 16) (hr : rowOf W b = packC u sg L L) :
    (convert 77 9 (.slice (some ⟨b, 0, none⟩) L L)).run Tryz.prog W = .ok (.string ⟨(packB u sg L).toArray⟩) W := by
  have h := run_convert_bytes_back (P := Tryz.prog) W 77 9 5 ⟨b, 0, none⟩ L (packB u sg L) (by kernel_rfl) (by kernel_rfl) (by kernel_rfl) (fun j hj => by
    have hj' : j < L := by simpa using hj
    have e : (Addr.mk b 0 none).add j = ⟨b, 0 + j, none⟩ := by
      unfold Addr.add
      split
      · rename_i h; subst h; rfl
      · rfl
    rw [e, cell_row, hr, packC_get _ _ _ _ _ (by omega), if_pos (by omega)]
    have h2 : (packB u sg L)[j] = UInt8.ofNat (pb u sg (L - 1 - (0 + j))) := by simp [packB]
    rw [h2, UInt8.toNat_ofNat', Nat.mod_eq_of_lt (pb_lt hsg)])
  rw [packB_length] at h
  exact h
attribute [local irreducible] ncells wcells txt packC packB
set_option maxRecDepth 100000 in
set_option maxHeartbeats 2000000 in
theorem pack_neg (a sa s d : Nat) (w : World) (ha : Good true a sa) (hc : Good true (scU a sa s) s) (h1 : 1 ≤ d) (h2 : d ≤ 31) (h4 : s ≤ d) (h5 : dl (scU a sa s) ≤ d) :
    Calls Tryz.prog 27 #[.string ⟨(txt true a sa).toArray⟩, .int .i64 d, .int .i64 s] w fun e w' => e = .returned (.tuple #[.string ⟨(packB (scU a sa s) 13 (d / 2 + 1)).toArray⟩, .int .i64 0]) ∧ Below w.heap.size w w' := by
  have GA := Lib.hid ha
  have GC := Lib.hid hc
  have H5 := Lib.hid h5
  clear ha hc h5
  have wd : IntKind.i64.wrap ((d : Int) / 2 + 1) = (d : Int) / 2 + 1 := IntWalk.i64_in _ (by omega)
  have wd1 : IntKind.i64.wrap ((d : Int) / 2) = (d : Int) / 2 := IntWalk.i64_in _ (by omega)
  obtain ⟨L, hL⟩ : ∃ L, d / 2 + 1 = L := ⟨_, rfl⟩
  rw [hL]
  have hL1 : (d : Int) / 2 + 1 = (L : Int) := by omega
  have hL2 : 1 ≤ L := by omega
  have hL3 : L ≤ 16 := by omega
  obtain ⟨U, hU⟩ : ∃ U, scU a sa s = U := ⟨_, rfl⟩
  have TO : ∀ w, Calls Tryz.prog 61 #[.string ⟨(txt true a sa).toArray⟩, .int .i64 d, .int .i64 s] w fun e w' => e = .returned (.tuple #[.string ⟨(txt true U s).toArray⟩, .int .i64 0]) ∧ Below w.heap.size w w' := fun w => by
    rw [← hU]; exact to_yes true a sa s d w GA.out GC.out h1 h2 h4 H5.out
  have TO' := Lib.hid TO
  rw [hU] at GC ⊢
  clear TO hU H5 GA
  have hmk : ∀ w, (Instr.makeSlice 77 (.int .i64 (L : Int)) (.int .i64 (L : Int))).run Tryz.prog w = .ok (.slice (some ⟨w.heap.size, 0, none⟩) L L) (w.alloc (.cells (packC U 13 L 0) 5)) := fun w => by
    rw [← packC_zero]
    exact run_make_row' 77 5 (.int .u8 0) 1 rfl (by kernel_rfl) rfl _ _ L (by omega) (by omega) w
  go_enter Tryz.func27, Tryz.ntmps27
  go_wp2_with (first
    | (go_at_call 61; refine (TO'.out _).mono ?_; rintro e w1 ⟨rfl, hb⟩; have K1 := (Blk.nil w).kept hb; clear hb)
    | (go_at_call 35; refine (parse_yes _ _ _ _ GC.out).mono ?_; rintro e w2 ⟨rfl, hb⟩; have K2 := K1.kept hb; clear hb; have X2 := ((Blk.nil w2).lay rfl (ncells true U s) 45).lay (by simp) (packC U 13 L 0) 5))
  have X3 : Blk w2 _ [ncells true U s, packC U 13 L 0] := X2
  go_loopw [39] (fun s39 W => ∃ i : Nat, i ≤ L ∧ s39 = .int .i64 (i : Int) ∧ Blk w2 W [ncells true U s, packC U 13 L i]) (fun s39 _ => L - (intOf s39).toNat)
  case atStart => exact ⟨0, by omega, rfl, X3⟩
  case round =>
    obtain ⟨i, hi, rfl, T1⟩ := hrel
    clear X2 X3
    by_cases hlt : i < L
    · have ht : (i : Int) < (L : Int) := by omega
      obtain ⟨J, hJ⟩ : ∃ J, L - 1 - i = J := ⟨_, rfl⟩
      have hJ1 : (L : Int) - 1 - (i : Int) = (J : Int) := by omega
      have hJ2 : (J : Int) < (L : Int) := by omega
      have wL : IntKind.i64.wrap ((L : Int) - 1) = (L : Int) - 1 := IntWalk.i64_in _ (by omega)
      have wJ : IntKind.i64.wrap (J : Int) = (J : Int) := IntWalk.i64_in _ (by omega)
      have hJ3 : J < L := by omega
      by_cases h0 : i = 0
      · subst h0
        have hJ0 : (L : Int) - 1 = (J : Int) := by omega
        have c1 : World.cell? _ ⟨w2.heap.size, 1, none⟩ = some (.int .u8 (dg U 0)) := (T1.cell 0 rfl 1).trans (by rw [ncells_get _ _ _ _ (by omega), if_neg (by omega), if_neg (by omega)])
        have c3 : World.cell? _ ⟨w2.heap.size + 1, J, none⟩ = some (.int .u8 0) := (T1.cell 1 rfl J).trans (by rw [packC_get _ _ _ _ _ hJ3, if_neg (by omega)])
        have z3 : World.frozen? _ ⟨w2.heap.size + 1, J, none⟩ = _ := T1.frozen 1 rfl J
        have hv1 : (dg U 0 : Int) * 16 % 256 = (dg U 0 : Int) * 16 := by have := dg_lt U 0; omega
        go_wp2
        have hv2 : bits .or .u8 ((dg U 0 : Int) * 16) (13 : Int) = ((pb U 13 0 : Nat) : Int) := or_half' (y := 13) (dg_lt U 0) (by decide)
        rw [hv2]
        refine ⟨⟨0 + 1, by omega, rfl, ?_⟩, by simp [intOf]; omega⟩
        rw [← packC_set U 13 L 0 hlt, hJ]
        have T2 := ((T1.set 1 rfl J (.int .u8 ((dg U 0 : Int) * 16))).set 1 rfl J (.int .u8 ((pb U 13 0 : Nat) : Int)))
        rw [Array.setIfInBounds_setIfInBounds] at T2
        exact T2
      · have hi0 : (i : Int) ≠ 0 := by omega
        obtain ⟨I, hI⟩ : ∃ I, 2 * i = I := ⟨_, rfl⟩
        obtain ⟨I', hI'⟩ : ∃ I', 2 * i - 1 = I' := ⟨_, rfl⟩
        have hI1 : 2 * (i : Int) = (I : Int) := by omega
        have hI2 : (I : Int) - 1 = (I' : Int) := by omega
        have hI3 : (I : Int) < 128 := by omega
        have hI4 : (I' : Int) < 128 := by omega
        have hI5 : I < 128 := by omega
        have hI6 : I' < 128 := by omega
        have wI : IntKind.i64.wrap (I : Int) = (I : Int) := IntWalk.i64_in _ (by omega)
        have wI2 : IntKind.i64.wrap (I' : Int) = (I' : Int) := IntWalk.i64_in _ (by omega)
        have c1 : World.cell? _ ⟨w2.heap.size, 1 + I, none⟩ = some (.int .u8 (dg U I)) := (T1.cell 0 rfl (1 + I)).trans (by rw [ncells_get _ _ _ _ (by omega), if_neg (by omega), if_neg (by omega), show 1 + I - 1 = I by omega])
        have c2 : World.cell? _ ⟨w2.heap.size, 1 + I', none⟩ = some (.int .u8 (dg U I')) := (T1.cell 0 rfl (1 + I')).trans (by rw [ncells_get _ _ _ _ (by omega), if_neg (by omega), if_neg (by omega), show 1 + I' - 1 = I' by omega])
        have c3 : World.cell? _ ⟨w2.heap.size + 1, J, none⟩ = some (.int .u8 0) := (T1.cell 1 rfl J).trans (by rw [packC_get _ _ _ _ _ hJ3, if_neg (by omega)])
        have z3 : World.frozen? _ ⟨w2.heap.size + 1, J, none⟩ = _ := T1.frozen 1 rfl J
        have hv1 : (dg U I : Int) * 16 % 256 = (dg U I : Int) * 16 := by have := dg_lt U I; omega
        have n2 : w2.heap.size ≠ w2.heap.size + 1 := by omega
        go_wp2
        go_region
        all_goals go_wp2
        have hv2 : bits .or .u8 ((dg U I : Int) * 16) (dg U I' : Int) = ((pb U 13 i : Nat) : Int) := by
          rw [or_half' (dg_lt U I) (Nat.lt_trans (dg_lt U I') (by decide))]
          unfold pb
          rw [if_neg h0, hI, show I - 1 = I' by omega]
        rw [hv2]
        refine ⟨⟨i + 1, by omega, rfl, ?_⟩, by simp [intOf]; omega⟩
        rw [← packC_set U 13 L i hlt, hJ]
        have T2 := ((T1.set 1 rfl J (.int .u8 ((dg U I : Int) * 16))).set 1 rfl J (.int .u8 ((pb U 13 i : Nat) : Int))).drew
        rw [Array.setIfInBounds_setIfInBounds] at T2
        exact T2
    · obtain rfl : i = L := by omega
      have hcv := conv_pack U 13 i wr (w2.heap.size + 1) (by decide) (T1.row 1 _ rfl)
      go_wp2
      go_ret2
      exact ⟨rfl, (K2.kept T1.below).below⟩
end Go.Proofs.YtkcogoibaodbeaaGreatDoor
