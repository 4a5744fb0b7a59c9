/- The walk of FixedExact. -/
import Derived.Test.YtkcogoibaodbeaaAwake
set_option linter.unusedVariables false
set_option linter.unusedSimpArgs false
namespace Go.Proofs.Ytkcogoibaodbeaa
open Go.RowKit
attribute [local irreducible] txt
set_option maxRecDepth 100000 in
set_option maxHeartbeats 1000000 in
theorem of_bad (M s : Int) (w : World) (h : s < 0 ∨ 31 < s) :
    Calls Try.prog 36 #[.int .i64 M, .int .i64 s] w fun e w' => e = .returned (.tuple #[.string ⟨#[]⟩, .int .i64 7]) ∧ Below w.heap.size w w' := by
  by_cases h1 : s < 0
  · go_enter Try.func36, Try.ntmps36
    go_wp2
    go_ret2
    exact ⟨rfl, Below.refl _ _⟩
  · have h2 : 31 < s := by omega
    go_enter Try.func36, Try.ntmps36
    go_wp2
    go_ret2
    exact ⟨rfl, Below.refl _ _⟩
def OfSays (M s : Int) (l : List UInt8) (c : Int) : Prop := ∀ w, Calls Try.prog 36 #[.int .i64 M, .int .i64 s] w fun e w' => e = .returned (.tuple #[.string ⟨l.toArray⟩, .int .i64 c]) ∧ Below w.heap.size w w'
def TwoSays (k : Nat) (a b : List UInt8) (l : List UInt8) : Prop := ∀ w, Calls Try.prog k #[.string ⟨a.toArray⟩, .string ⟨b.toArray⟩] w fun e w' => e = .returned (.tuple #[.string ⟨l.toArray⟩, .int .i64 0]) ∧ Below w.heap.size w w'
set_option maxRecDepth 100000 in
set_option maxHeartbeats 1000000 in
theorem exact_bad1 (m n s t : Int) (l1 l2 : List UInt8) (c2 : Int) (w : World) (h1 : OfSays (m.tmod 10000000000) s l1 7) (h2 : OfSays (n.tmod 10000000000) t l2 c2) :
    Calls Try.prog 6 #[.int .i64 m, .int .i64 n, .int .i64 s, .int .i64 t] w fun e w' => e = .returned (.bool true) ∧ Below w.heap.size w w' := by
  have H1 := Lib.hid h1
  have H2 := Lib.hid h2
  clear h1 h2
  go_enter Try.func6, Try.ntmps6
  go_wp2_with (first
    | (go_at_call 36; have KK := K1; clear KK; refine (H2.out _).mono ?_; rintro e w2 ⟨rfl, hb⟩; have K2 := K1.kept hb; clear hb)
    | (go_at_call 36; refine (H1.out _).mono ?_; rintro e w1 ⟨rfl, hb⟩; have K1 := (Blk.nil w).kept hb; clear hb)
    | (go_at_call 9; refine (awake_any _).mono ?_; rintro e w3 ⟨rfl, hb⟩; have K3 := K2.kept hb; clear hb))
  go_ret
  exact ⟨rfl, K3.below⟩
set_option maxRecDepth 100000 in
set_option maxHeartbeats 1000000 in
theorem exact_bad2 (m n s t : Int) (l1 l2 : List UInt8) (w : World) (h1 : OfSays (m.tmod 10000000000) s l1 0) (h2 : OfSays (n.tmod 10000000000) t l2 7)  :
    Calls Try.prog 6 #[.int .i64 m, .int .i64 n, .int .i64 s, .int .i64 t] w fun e w' => e = .returned (.bool true) ∧ Below w.heap.size w w' := by
  have H1 := Lib.hid h1
  have H2 := Lib.hid h2
  clear h1 h2
  go_enter Try.func6, Try.ntmps6
  go_wp2_with (first
    | (go_at_call 36; have KK := K1; clear KK; refine (H2.out _).mono ?_; rintro e w2 ⟨rfl, hb⟩; have K2 := K1.kept hb; clear hb)
    | (go_at_call 36; refine (H1.out _).mono ?_; rintro e w1 ⟨rfl, hb⟩; have K1 := (Blk.nil w).kept hb; clear hb)
    | (go_at_call 9; refine (awake_any _).mono ?_; rintro e w3 ⟨rfl, hb⟩; have K3 := K2.kept hb; clear hb))
  go_ret
  exact ⟨rfl, K3.below⟩
set_option maxRecDepth 100000 in
set_option maxHeartbeats 1000000 in
theorem exact_bad3 (m n s t : Int) (l1 l2 : List UInt8) (w : World) (h1 : OfSays (m.tmod 10000000000) s l1 0) (h2 : OfSays (n.tmod 10000000000) t l2 0) (hs : 10 < s) :
    Calls Try.prog 6 #[.int .i64 m, .int .i64 n, .int .i64 s, .int .i64 t] w fun e w' => e = .returned (.bool true) ∧ Below w.heap.size w w' := by
  have H1 := Lib.hid h1
  have H2 := Lib.hid h2
  clear h1 h2
  go_enter Try.func6, Try.ntmps6
  go_wp2_with (first
    | (go_at_call 36; have KK := K1; clear KK; refine (H2.out _).mono ?_; rintro e w2 ⟨rfl, hb⟩; have K2 := K1.kept hb; clear hb)
    | (go_at_call 36; refine (H1.out _).mono ?_; rintro e w1 ⟨rfl, hb⟩; have K1 := (Blk.nil w).kept hb; clear hb)
    | (go_at_call 9; refine (awake_any _).mono ?_; rintro e w3 ⟨rfl, hb⟩; have K3 := K2.kept hb; clear hb))
  go_ret
  exact ⟨rfl, K3.below⟩
set_option maxRecDepth 100000 in
set_option maxHeartbeats 1000000 in
theorem exact_bad4 (m n s t : Int) (l1 l2 : List UInt8) (w : World) (h1 : OfSays (m.tmod 10000000000) s l1 0) (h2 : OfSays (n.tmod 10000000000) t l2 0) (hs : s ≤ 10) (ht : 10 < t) :
    Calls Try.prog 6 #[.int .i64 m, .int .i64 n, .int .i64 s, .int .i64 t] w fun e w' => e = .returned (.bool true) ∧ Below w.heap.size w w' := by
  have H1 := Lib.hid h1
  have H2 := Lib.hid h2
  clear h1 h2
  have hs1 : ¬ 10 < s := by omega
  go_enter Try.func6, Try.ntmps6
  go_wp2_with (first
    | (go_at_call 36; have KK := K1; clear KK; refine (H2.out _).mono ?_; rintro e w2 ⟨rfl, hb⟩; have K2 := K1.kept hb; clear hb)
    | (go_at_call 36; refine (H1.out _).mono ?_; rintro e w1 ⟨rfl, hb⟩; have K1 := (Blk.nil w).kept hb; clear hb)
    | (go_at_call 9; refine (awake_any _).mono ?_; rintro e w3 ⟨rfl, hb⟩; have K3 := K2.kept hb; clear hb))
  go_ret
  exact ⟨rfl, K3.below⟩
set_option maxRecDepth 100000 in
set_option maxHeartbeats 1000000 in
theorem exact_good (m n s t : Int) (la lb lc lu lx : List UInt8) (w : World) (hs : s ≤ 10) (ht : t ≤ 10) (h1 : OfSays (m.tmod 10000000000) s la 0) (h2 : OfSays (n.tmod 10000000000) t lb 0)
    (h3 : TwoSays 26 la lb lc) (h4 : TwoSays 26 lb la lc) (h5 : TwoSays 28 lc lb lu)
    (h6 : ∀ w, Calls Try.prog 24 #[.string ⟨lu.toArray⟩, .string ⟨la.toArray⟩] w fun e w' => e = .returned (.tuple #[.int .i64 0, .int .i64 0]) ∧ Below w.heap.size w w')
    (h7 : TwoSays 30 la lb lx) (h8 : TwoSays 30 lb la lx) :
    Calls Try.prog 6 #[.int .i64 m, .int .i64 n, .int .i64 s, .int .i64 t] w fun e w' => e = .returned (.bool true) ∧ Below w.heap.size w w' := by
  have H1 := Lib.hid h1
  have H2 := Lib.hid h2
  have H3 := Lib.hid h3
  have H4 := Lib.hid h4
  have H5 := Lib.hid h5
  have H6 := Lib.hid h6
  have H7 := Lib.hid h7
  have H8 := Lib.hid h8
  clear h1 h2 h3 h4 h5 h6 h7 h8
  have hs1 : ¬ 10 < s := by omega
  have ht1 : ¬ 10 < t := by omega
  go_enter Try.func6, Try.ntmps6
  go_wp2_with (first
    | (go_at_call 36; have KK := K1; clear KK; refine (H2.out _).mono ?_; rintro e w2 ⟨rfl, hb⟩; have K2 := K1.kept hb; clear hb)
    | (go_at_call 36; refine (H1.out _).mono ?_; rintro e w1 ⟨rfl, hb⟩; have K1 := (Blk.nil w).kept hb; clear hb)
    | (go_at_call 26; have KK := K3; clear KK; refine (H4.out _).mono ?_; rintro e w4 ⟨rfl, hb⟩; have K4 := K3.kept hb; clear hb)
    | (go_at_call 26; refine (H3.out _).mono ?_; rintro e w3 ⟨rfl, hb⟩; have K3 := K2.kept hb; clear hb)
    | (go_at_call 28; refine (H5.out _).mono ?_; rintro e w5 ⟨rfl, hb⟩; have K5 := K4.kept hb; clear hb)
    | (go_at_call 24; refine (H6.out _).mono ?_; rintro e w6 ⟨rfl, hb⟩; have K6 := K5.kept hb; clear hb)
    | (go_at_call 30; have KK := K7; clear KK; refine (H8.out _).mono ?_; rintro e w8 ⟨rfl, hb⟩; have K8 := K7.kept hb; clear hb)
    | (go_at_call 30; refine (H7.out _).mono ?_; rintro e w7 ⟨rfl, hb⟩; have K7 := K6.kept hb; clear hb)
    | (go_at_call 9; refine (awake_any _).mono ?_; rintro e w9 ⟨rfl, hb⟩; have K9 := K8.kept hb; clear hb))
  go_ret
  exact ⟨rfl, K9.below⟩
end Go.Proofs.Ytkcogoibaodbeaa
