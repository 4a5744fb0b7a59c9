/- The references' small functions: zeros. The references' Bare, at, less. -/
import Derived.Test.YtkcogoibaodbeaaGreatDoorParsePure
import Derived.Test.YtkcogoibaodbeaaGreatDoorBlk
import Derived.WalkKit
import Derived.Test.YtkcogoibaodbeaaGreatDoorRefScan
set_option linter.unusedVariables false
set_option linter.unusedSimpArgs false
namespace Go.Proofs.YtkcogoibaodbeaaGreatDoor
open Go.RowKit
set_option maxRecDepth 100000 in
set_option maxHeartbeats 400000 in
theorem zeros_same (n : Nat) (w : World) (hn : n ≤ 1000) :
    Calls Tryz.prog 70 #[.int .i64 n] w fun e w' => e = .returned (.string ⟨(List.replicate n 48).toArray⟩) ∧ w' = w := by
  go_enter Tryz.func70, Tryz.ntmps70
  go_wp2
  go_loopw [3, 5] (fun s3 s5 W => ∃ i : Nat, i ≤ n ∧ s3 = .string ⟨(List.replicate i 48).toArray⟩ ∧ s5 = .int .i64 (i : Int) ∧ W = w) (fun _ s5 _ => n - (intOf s5).toNat)
  case atStart => exact ⟨0, by omega, rfl, rfl, rfl⟩
  case round =>
    obtain ⟨i, hi, rfl, rfl, rfl⟩ := hrel
    by_cases hlt : i < n
    · have ht : (i : Int) < (n : Int) := by omega
      go_wp2
      refine ⟨⟨i + 1, by omega, ?_, rfl, trivial⟩, by simp [intOf]; omega⟩
      congr 1
      apply ByteArray.ext
      rw [ByteArray.data_append]
      rw [List.replicate_succ', ← List.push_toArray, List.toArray_replicate]
      rfl
    · obtain rfl : i = n := by omega
      go_wp2
      go_ret
      exact ⟨rfl, rfl⟩
theorem zeros_any (n : Nat) (w : World) (hn : n ≤ 1000) :
    Calls Tryz.prog 70 #[.int .i64 n] w fun e w' => e = .returned (.string ⟨(List.replicate n 48).toArray⟩) ∧ Below w.heap.size w w' :=
  (zeros_same n w hn).mono fun _ _ ⟨h1, h2⟩ => ⟨h1, h2 ▸ Below.refl _ _⟩
/-- The digit of the place i from the right of a list of digits. -/
def atL (l : List UInt8) (i : Nat) : Nat := if i < l.length then (l.getD (l.length - 1 - i) 48).toNat - 48 else 0
set_option maxRecDepth 100000 in
set_option maxHeartbeats 400000 in
theorem at_out (l : List UInt8) (i : Nat) (w : World) (hl : l.length ≤ 1000) (h : l.length ≤ i) :
    Calls Tryz.prog 52 #[.string ⟨l.toArray⟩, .int .i64 i] w fun e w' => e = .returned (.int .i64 0) ∧ w' = w := by
  have h1 : (l.length : Int) ≤ (i : Int) := by omega
  go_enter Tryz.func52, Tryz.ntmps52
  go_wp2
  go_ret
  exact ⟨rfl, rfl⟩
set_option maxRecDepth 100000 in
set_option maxHeartbeats 400000 in
theorem at_in (l : List UInt8) (i : Nat) (c : Nat) (w : World) (hl : l.length ≤ 1000) (h : i < l.length) (hc : l[l.length - 1 - i] = UInt8.ofNat (48 + c)) (hc10 : c < 10) :
    Calls Tryz.prog 52 #[.string ⟨l.toArray⟩, .int .i64 i] w fun e w' => e = .returned (.int .i64 c) ∧ w' = w := by
  have h1 : ¬ (l.length : Int) ≤ (i : Int) := by omega
  obtain ⟨k, hk⟩ : ∃ k, l.length - 1 - i = k := ⟨_, rfl⟩
  have hk1 : (l.length : Int) - 1 - (i : Int) = (k : Int) := by omega
  have hk2 : k < l.length := by omega
  have hk3 : (k : Int) < (l.length : Int) := by omega
  have wk : IntKind.i64.wrap ((l.length : Int) - 1) = (l.length : Int) - 1 := IntWalk.i64_in _ (by omega)
  have wk2 : IntKind.i64.wrap (k : Int) = (k : Int) := IntWalk.i64_in _ (by omega)
  go_enter Tryz.func52, Tryz.ntmps52
  go_wp2
  go_ret
  refine ⟨?_, rfl⟩
  have e : (ByteArray.mk l.toArray)[k]'(by simpa [ByteArray.size] using hk2) = UInt8.ofNat (48 + c) := by
    rw [← hc]
    subst hk
    rfl
  have e2 : (UInt8.ofNat (48 + c)).toNat = 48 + c := by rw [UInt8.toNat_ofNat', Nat.mod_eq_of_lt (by omega)]
  have e3 : (((48 + c : Nat) : Int) - 48) % 256 = (c : Int) := by omega
  simp only [e, e2, e3]
  rfl
end Go.Proofs.YtkcogoibaodbeaaGreatDoor
namespace Go.Proofs.YtkcogoibaodbeaaGreatDoor
open Go.RowKit
attribute [local go_sem] ByteArray.mk_append_mk ByteArray.extract_mk
theorem dd_size (u k : Nat) : (ByteArray.mk (dd u k).toArray).size = k := by simp [ByteArray.size, dd_length]
theorem dd_head {u k : Nat} (h : 0 < (ByteArray.mk (dd u (k + 1)).toArray).size) : (ByteArray.mk (dd u (k + 1)).toArray)[0]'h = chr (dg u k) := rfl
theorem dd_tail (u k : Nat) : (ByteArray.mk (dd u (k + 1)).toArray).extract 1 (k + 1) = ByteArray.mk (dd u k).toArray := by
  rw [ByteArray.extract_mk, dd, List.drop_one, List.tail_cons, Nat.add_sub_cancel, List.take_of_length_le (by rw [dd_length]; exact Nat.le_refl _)]
theorem dd_rest (u j : Nat) : List.take j (dd u (j + 1)).tail = dd u j := by
  rw [dd, List.tail_cons, List.take_of_length_le (by rw [dd_length]; exact Nat.le_refl _)]
set_option maxRecDepth 100000 in
set_option maxHeartbeats 400000 in
theorem bare_any (u k : Nat) (w : World) (hu : u < 10 ^ k) (hk : k ≤ 1000) :
    Calls Tryz.prog 72 #[.string ⟨(dd u k).toArray⟩] w fun e w' => e = .returned (.string ⟨(ds u).toArray⟩) ∧ w' = w := by
  go_enter Tryz.func72, Tryz.ntmps72
  go_wp2
  go_loopw [0] (fun s0 W => ∃ i : Nat, i ≤ k ∧ u < 10 ^ i ∧ s0 = .string ⟨(dd u i).toArray⟩ ∧ W = w) (fun s0 _ => (match s0 with | .string b => b.size | _ => 0))
  case atStart => exact ⟨k, by omega, hu, rfl, rfl⟩
  case round =>
    obtain ⟨i, hi, hui, rfl, rfl⟩ := hrel
    have hz := dd_size u i
    by_cases h1 : 1 < i
    · obtain ⟨j, rfl⟩ : ∃ j, i = j + 1 := ⟨i - 1, by omega⟩
      have ht : (1 : Int) < ((j : Int) + 1) := by omega
      have he : (dd u (j + 1)).isEmpty = false := rfl
      by_cases h0 : dg u j = 0
      · have hq : (((ByteArray.mk (dd u (j + 1)).toArray)[0]'(by rw [hz]; omega)).toNat : Int) = 48 := by
          rw [dd_head, chr_nat (dg_lt u j), h0]; rfl
        go_wp2
        refine ⟨⟨j, by omega, lt_of_dg_zero hui h0, ?_, trivial⟩, ?_⟩
        · rw [dd_rest]
        · rw [dd_rest]
          show (ByteArray.mk (dd u j).toArray).size < (ByteArray.mk (dd u (j + 1)).toArray).size
          rw [dd_size, dd_size]; omega
      · have hq : ((((ByteArray.mk (dd u (j + 1)).toArray)[0]'(by rw [hz]; omega)).toNat : Int) == 48) = false := by
          rw [dd_head, chr_nat (dg_lt u j)]
          simp
          omega
        have e : dl u = j + 1 := dl_of hui (by omega) (Or.inr (by simpa using h0))
        go_wp2
        go_ret
        unfold ds
        rw [e]
        exact ⟨rfl, rfl⟩
    · have ht : ¬ (1 : Int) < (i : Int) := by omega
      rcases Nat.eq_zero_or_pos i with rfl | hp
      · obtain rfl : u = 0 := by simpa using hui
        have he : (dd 0 0).isEmpty = true := rfl
        go_wp2
        go_ret
        rw [ds_zero]
        exact ⟨rfl, rfl⟩
      · obtain rfl : i = 1 := by omega
        have he : (dd u 1).isEmpty = false := rfl
        have e : dl u = 1 := dl_of hui (by omega) (Or.inl rfl)
        go_wp2
        go_ret
        unfold ds
        rw [e]
        exact ⟨rfl, rfl⟩
theorem bare_list {l : List UInt8} (w : World) (h : l.all isD = true) (hl : l.length ≤ 1000) :
    Calls Tryz.prog 72 #[.string ⟨l.toArray⟩] w fun e w' => e = .returned (.string ⟨(ds (valD l)).toArray⟩) ∧ w' = w := by
  have := bare_any (valD l) l.length w (valD_lt h) hl
  rw [← dd_of_all h] at this
  exact this
theorem at_any (u i : Nat) (w : World) (hu : dl u ≤ 1000) :
    Calls Tryz.prog 52 #[.string ⟨(ds u).toArray⟩, .int .i64 i] w fun e w' => e = .returned (.int .i64 (dg u i)) ∧ w' = w := by
  by_cases h : i < dl u
  · have hl : i < (ds u).length := by rw [ds_length]; exact h
    have hg : (ds u)[(ds u).length - 1 - i]'(by omega) = UInt8.ofNat (48 + dg u i) := by
      have e := dd_get u (dl u) i h
      rw [List.getElem?_eq_some_iff] at e
      obtain ⟨_, e⟩ := e
      simp only [ds_length]
      exact e
    exact at_in (ds u) i (dg u i) w (by rw [ds_length]; exact hu) hl hg (dg_lt u i)
  · have h0 : dg u i = 0 := dg_zero_of_lt (Nat.lt_of_lt_of_le (lt_pow_dl u) (Nat.pow_le_pow_right (by decide) (by omega)))
    rw [h0]
    exact at_out (ds u) i w (by rw [ds_length]; exact hu) (by rw [ds_length]; omega)
theorem dl_mono {a b : Nat} (h : a ≤ b) : dl a ≤ dl b := (dl_le_iff a (dl b) (dl_pos b)).2 (Nat.lt_of_le_of_lt h (lt_pow_dl b))
set_option maxRecDepth 100000 in
set_option maxHeartbeats 400000 in
theorem less_any (a b : Nat) (w : World) (ha : dl a ≤ 1000) (hb : dl b ≤ 1000) :
    Calls Tryz.prog 46 #[.string ⟨(ds a).toArray⟩, .string ⟨(ds b).toArray⟩] w fun e w' => e = .returned (.bool (decide (a < b))) ∧ w' = w := by
  have za := ds_length a
  have zb := ds_length b
  by_cases h : dl a = dl b
  · have h1 : ((dl a : Nat) : Int) = (dl b : Int) := by omega
    have h2 : (ds a).length = (ds b).length := by omega
    have h3 : ((ds a).length : Int) = ((ds b).length : Int) := by omega
    have e : Op.bytesLess (ds a) (ds b) = decide (a < b) := by
      unfold ds
      rw [h, less_dd, Nat.mod_eq_of_lt (lt_pow_dl b), Nat.mod_eq_of_lt (by rw [← h]; exact lt_pow_dl a)]
    go_enter Tryz.func46, Tryz.ntmps46
    go_wp2
    go_ret
    exact ⟨rfl, rfl⟩
  · have h3 : ¬ ((ds a).length : Int) = ((ds b).length : Int) := by omega
    have e : decide (((ds a).length : Int) < ((ds b).length : Int)) = decide (a < b) := by
      rw [za, zb]
      rcases Nat.lt_or_ge a b with hl | hl
      · have := dl_mono (Nat.le_of_lt hl)
        rw [decide_eq_true hl, decide_eq_true (by omega)]
      · have := dl_mono hl
        rw [decide_eq_false (by omega), decide_eq_false (by omega)]
    go_enter Tryz.func46, Tryz.ntmps46
    go_wp2
    go_ret
    rw [za, zb] at e
    simp only [Int.ofNat_lt] at e
    exact ⟨by rw [e]; rfl, rfl⟩
end Go.Proofs.YtkcogoibaodbeaaGreatDoor
