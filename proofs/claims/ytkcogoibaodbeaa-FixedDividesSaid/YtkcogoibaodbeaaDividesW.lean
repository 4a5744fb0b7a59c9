/- The walk of FixedDivides. -/
import Derived.Test.YtkcogoibaodbeaaExactP
import Derived.Test.YtkcogoibaodbeaaRem
set_option linter.unusedVariables false
set_option linter.unusedSimpArgs false
namespace Go.Proofs.Ytkcogoibaodbeaa
open Go.RowKit
attribute [local irreducible] txt
set_option maxRecDepth 100000 in
set_option maxHeartbeats 1000000 in
theorem divides_bad1 (m n s t : Int) (l1 l2 : List UInt8) (c2 : Int) (w : World) (h1 : OfSays (m.tmod 10000000000) s l1 7) (h2 : OfSays (n.tmod 10000000000) t l2 c2) :
    Calls Try.prog 7 #[.int .i64 m, .int .i64 n, .int .i64 s, .int .i64 t] w fun e w' => e = .returned (.bool true) ∧ Below w.heap.size w w' := by
  have H1 := Lib.hid h1
  have H2 := Lib.hid h2
  clear h1 h2
  go_enter Try.func7, Try.ntmps7
  go_wp2_with (first
    | (go_at_call 36; have KK := K1; clear KK; refine (H2.out _).mono ?_; rintro e w2 ⟨rfl, hb⟩; have K2 := K1.kept hb; clear hb)
    | (go_at_call 36; refine (H1.out _).mono ?_; rintro e w1 ⟨rfl, hb⟩; have K1 := (Blk.nil w).kept hb; clear hb)
    | (go_at_call 9; refine (awake_any _).mono ?_; rintro e w3 ⟨rfl, hb⟩; have K3 := K2.kept hb; clear hb))
  go_ret
  exact ⟨rfl, K3.below⟩
set_option maxRecDepth 100000 in
set_option maxHeartbeats 1000000 in
theorem divides_bad2 (m n s t : Int) (l1 l2 : List UInt8) (w : World) (h1 : OfSays (m.tmod 10000000000) s l1 0) (h2 : OfSays (n.tmod 10000000000) t l2 7)  :
    Calls Try.prog 7 #[.int .i64 m, .int .i64 n, .int .i64 s, .int .i64 t] w fun e w' => e = .returned (.bool true) ∧ Below w.heap.size w w' := by
  have H1 := Lib.hid h1
  have H2 := Lib.hid h2
  clear h1 h2
  go_enter Try.func7, Try.ntmps7
  go_wp2_with (first
    | (go_at_call 36; have KK := K1; clear KK; refine (H2.out _).mono ?_; rintro e w2 ⟨rfl, hb⟩; have K2 := K1.kept hb; clear hb)
    | (go_at_call 36; refine (H1.out _).mono ?_; rintro e w1 ⟨rfl, hb⟩; have K1 := (Blk.nil w).kept hb; clear hb)
    | (go_at_call 9; refine (awake_any _).mono ?_; rintro e w3 ⟨rfl, hb⟩; have K3 := K2.kept hb; clear hb))
  go_ret
  exact ⟨rfl, K3.below⟩
set_option maxRecDepth 100000 in
set_option maxHeartbeats 1000000 in
theorem divides_bad3 (m n s t : Int) (l1 l2 : List UInt8) (w : World) (h1 : OfSays (m.tmod 10000000000) s l1 0) (h2 : OfSays (n.tmod 10000000000) t l2 0) (hs : 10 < s) :
    Calls Try.prog 7 #[.int .i64 m, .int .i64 n, .int .i64 s, .int .i64 t] w fun e w' => e = .returned (.bool true) ∧ Below w.heap.size w w' := by
  have H1 := Lib.hid h1
  have H2 := Lib.hid h2
  clear h1 h2
  go_enter Try.func7, Try.ntmps7
  go_wp2_with (first
    | (go_at_call 36; have KK := K1; clear KK; refine (H2.out _).mono ?_; rintro e w2 ⟨rfl, hb⟩; have K2 := K1.kept hb; clear hb)
    | (go_at_call 36; refine (H1.out _).mono ?_; rintro e w1 ⟨rfl, hb⟩; have K1 := (Blk.nil w).kept hb; clear hb)
    | (go_at_call 9; refine (awake_any _).mono ?_; rintro e w3 ⟨rfl, hb⟩; have K3 := K2.kept hb; clear hb))
  go_ret
  exact ⟨rfl, K3.below⟩
set_option maxRecDepth 100000 in
set_option maxHeartbeats 1000000 in
theorem divides_bad4 (m n s t : Int) (l1 l2 : List UInt8) (w : World) (h1 : OfSays (m.tmod 10000000000) s l1 0) (h2 : OfSays (n.tmod 10000000000) t l2 0) (hs : s ≤ 10) (ht : 10 < t) :
    Calls Try.prog 7 #[.int .i64 m, .int .i64 n, .int .i64 s, .int .i64 t] w fun e w' => e = .returned (.bool true) ∧ Below w.heap.size w w' := by
  have H1 := Lib.hid h1
  have H2 := Lib.hid h2
  clear h1 h2
  have hs1 : ¬ 10 < s := by omega
  go_enter Try.func7, Try.ntmps7
  go_wp2_with (first
    | (go_at_call 36; have KK := K1; clear KK; refine (H2.out _).mono ?_; rintro e w2 ⟨rfl, hb⟩; have K2 := K1.kept hb; clear hb)
    | (go_at_call 36; refine (H1.out _).mono ?_; rintro e w1 ⟨rfl, hb⟩; have K1 := (Blk.nil w).kept hb; clear hb)
    | (go_at_call 9; refine (awake_any _).mono ?_; rintro e w3 ⟨rfl, hb⟩; have K3 := K2.kept hb; clear hb))
  go_ret
  exact ⟨rfl, K3.below⟩
def DivSays (a b l : List UInt8) (c : Int) : Prop := ∀ w, Calls Try.prog 32 #[.string ⟨a.toArray⟩, .string ⟨b.toArray⟩, .int .i64 0] w fun e w' => e = .returned (.tuple #[.string ⟨l.toArray⟩, .int .i64 c]) ∧ Below w.heap.size w w'
def RemSays (a b l : List UInt8) (c : Int) : Prop := ∀ w, Calls Try.prog 34 #[.string ⟨a.toArray⟩, .string ⟨b.toArray⟩] w fun e w' => e = .returned (.tuple #[.string ⟨l.toArray⟩, .int .i64 c]) ∧ Below w.heap.size w w'
def CmpSays (a b : List UInt8) (c : Int) : Prop := ∀ w, Calls Try.prog 24 #[.string ⟨a.toArray⟩, .string ⟨b.toArray⟩] w fun e w' => e = .returned (.tuple #[.int .i64 c, .int .i64 0]) ∧ Below w.heap.size w w'
def AbsSays (a l : List UInt8) : Prop := ∀ w, Calls Try.prog 37 #[.string ⟨a.toArray⟩] w fun e w' => e = .returned (.tuple #[.string ⟨l.toArray⟩, .int .i64 0]) ∧ Below w.heap.size w w'
set_option maxRecDepth 100000 in
set_option maxHeartbeats 1000000 in
theorem divides_zero (m n s t : Int) (la lb : List UInt8) (w : World) (hs : s ≤ 10) (ht : t ≤ 10) (hn : n.tmod 10000000000 = 0) (h1 : OfSays (m.tmod 10000000000) s la 0) (h2 : OfSays 0 t lb 0)
    (h3 : DivSays la lb [] 7) (h4 : RemSays la lb [] 7) :
    Calls Try.prog 7 #[.int .i64 m, .int .i64 n, .int .i64 s, .int .i64 t] w fun e w' => e = .returned (.bool true) ∧ Below w.heap.size w w' := by
  have H1 := Lib.hid h1
  have H2 := Lib.hid h2
  have H3 := Lib.hid h3
  have H4 := Lib.hid h4
  clear h1 h2 h3 h4
  have hs1 : ¬ 10 < s := by omega
  have ht1 : ¬ 10 < t := by omega
  go_enter Try.func7, Try.ntmps7
  go_wp2_with (first
    | (go_at_call 36; have KK := K1; clear KK; refine (H2.out _).mono ?_; rintro e w2 ⟨rfl, hb⟩; have K2 := K1.kept hb; clear hb)
    | (go_at_call 36; refine (H1.out _).mono ?_; rintro e w1 ⟨rfl, hb⟩; have K1 := (Blk.nil w).kept hb; clear hb)
    | (go_at_call 32; refine (H3.out _).mono ?_; rintro e w3 ⟨rfl, hb⟩; have K3 := K2.kept hb; clear hb)
    | (go_at_call 34; refine (H4.out _).mono ?_; rintro e w4 ⟨rfl, hb⟩; have K4 := K3.kept hb; clear hb)
    | (go_at_call 9; refine (awake_any _).mono ?_; rintro e w9 ⟨rfl, hb⟩; have K9 := K4.kept hb; clear hb))
  go_ret
  exact ⟨rfl, K9.below⟩
set_option maxRecDepth 100000 in
set_option maxHeartbeats 2000000 in
theorem divides_good (m n s t N : Int) (la lb lq lr lp lx lu lv : List UInt8) (w : World) (hs : s ≤ 10) (ht : t ≤ 10) (hn : n.tmod 10000000000 = N) (hN : ¬ N = 0) (h1 : OfSays (m.tmod 10000000000) s la 0) (h2 : OfSays N t lb 0)
    (h3 : DivSays la lb lq 0) (h4 : RemSays la lb lr 0) (h5 : TwoSays 30 lq lb lp) (h6 : TwoSays 26 lp lr lx) (h7 : CmpSays lx la 0) (h8 : AbsSays lr lu) (h9 : AbsSays lb lv) (h10 : CmpSays lu lv (-1)) :
    Calls Try.prog 7 #[.int .i64 m, .int .i64 n, .int .i64 s, .int .i64 t] w fun e w' => e = .returned (.bool true) ∧ Below w.heap.size w w' := by
  have H1 := Lib.hid h1
  have H2 := Lib.hid h2
  have H3 := Lib.hid h3
  have H4 := Lib.hid h4
  have H5 := Lib.hid h5
  have H6 := Lib.hid h6
  have H7 := Lib.hid h7
  have H8 := Lib.hid h8
  have H9 := Lib.hid h9
  have H10 := Lib.hid h10
  clear h1 h2 h3 h4 h5 h6 h7 h8 h9 h10
  have hs1 : ¬ 10 < s := by omega
  have ht1 : ¬ 10 < t := by omega
  go_enter Try.func7, Try.ntmps7
  go_wp2_with (first
    | (go_at_call 36; have KK := K1; clear KK; refine (H2.out _).mono ?_; rintro e w2 ⟨rfl, hb⟩; have K2 := K1.kept hb; clear hb)
    | (go_at_call 36; refine (H1.out _).mono ?_; rintro e w1 ⟨rfl, hb⟩; have K1 := (Blk.nil w).kept hb; clear hb)
    | (go_at_call 32; refine (H3.out _).mono ?_; rintro e w3 ⟨rfl, hb⟩; have K3 := K2.kept hb; clear hb)
    | (go_at_call 34; refine (H4.out _).mono ?_; rintro e w4 ⟨rfl, hb⟩; have K4 := K3.kept hb; clear hb)
    | (go_at_call 30; refine (H5.out _).mono ?_; rintro e w5 ⟨rfl, hb⟩; have K5 := K4.kept hb; clear hb)
    | (go_at_call 26; refine (H6.out _).mono ?_; rintro e w6 ⟨rfl, hb⟩; have K6 := K5.kept hb; clear hb)
    | (go_at_call 24; have KK := K9; clear KK; refine (H10.out _).mono ?_; rintro e w10 ⟨rfl, hb⟩; have K10 := K9.kept hb; clear hb)
    | (go_at_call 24; refine (H7.out _).mono ?_; rintro e w7 ⟨rfl, hb⟩; have K7 := K6.kept hb; clear hb)
    | (go_at_call 37; have KK := K8; clear KK; refine (H9.out _).mono ?_; rintro e w9 ⟨rfl, hb⟩; have K9 := K8.kept hb; clear hb)
    | (go_at_call 37; refine (H8.out _).mono ?_; rintro e w8 ⟨rfl, hb⟩; have K8 := K7.kept hb; clear hb)
    | (go_at_call 9; refine (awake_any _).mono ?_; rintro e w11 ⟨rfl, hb⟩; have K11 := K10.kept hb; clear hb))
  go_ret
  exact ⟨rfl, K11.below⟩
end Go.Proofs.Ytkcogoibaodbeaa
