/- FixedTwo: its walk and what is plain about it, joined. -/
import Derived.Test.YtkcogoibaodbeaaAllT
import Derived.Test.YtkcogoibaodbeaaLong
import Derived.Test.YtkcogoibaodbeaaAwake
set_option linter.unusedVariables false
set_option linter.unusedSimpArgs false
namespace Go.Proofs.Ytkcogoibaodbeaa
open Go.RowKit
def PairSays (k : Nat) (x y : ByteArray) (r : List UInt8 × Int) : Prop := ∀ w, Calls Try.prog k #[.string x, .string y] w fun e w' => e = .returned (.tuple #[.string ⟨r.1.toArray⟩, .int .i64 r.2]) ∧ Below w.heap.size w w'
def CmpSays (k : Nat) (x y : ByteArray) (r : Int × Int) : Prop := ∀ w, Calls Try.prog k #[.string x, .string y] w fun e w' => e = .returned (.tuple #[.int .i64 r.1, .int .i64 r.2]) ∧ Below w.heap.size w w'
def DivSays (k : Nat) (x y : ByteArray) (t : Int) (r : List UInt8 × Int) : Prop := ∀ w, Calls Try.prog k #[.string x, .string y, .int .i64 t] w fun e w' => e = .returned (.tuple #[.string ⟨r.1.toArray⟩, .int .i64 r.2]) ∧ Below w.heap.size w w'
set_option maxRecDepth 100000 in
set_option maxHeartbeats 1000000 in
theorem two_long (x y : ByteArray) (t : Int) (w : World) (hx : x.size ≤ 1125899906842624) (hy : y.size ≤ 1125899906842624) (h : 500 < x.size + y.size) :
    Calls Try.prog 5 #[.string x, .string y, .int .i64 t] w fun e w' => e = .returned (.bool true) ∧ Below w.heap.size w w' := by
  have T0 := (Blk.nil w).lay rfl #[.string x, .string y] 9
  have c0 : World.cell? _ ⟨w.heap.size, 0, none⟩ = some (.string x) := T0.cell 0 rfl 0
  have c1 : World.cell? _ ⟨w.heap.size, 1, none⟩ = some (.string y) := T0.cell 0 rfl 1
  have LO := long_two x y w.heap.size _ hx hy c0 c1
  rw [decide_eq_true h] at LO
  have LO' := Lib.hid LO
  clear LO
  go_enter Try.func5, Try.ntmps5
  go_wp2_with (first
    | (go_at_call 8; refine LO'.out.mono ?_; rintro e w1 ⟨rfl, rfl⟩)
    | (go_at_call 9; refine (awake_any _).mono ?_; rintro e w3 ⟨rfl, hb⟩; have K3 := T0.kept hb; clear hb))
  go_ret
  exact ⟨rfl, K3.below⟩
set_option maxRecDepth 100000 in
set_option maxHeartbeats 4000000 in
theorem two_walk (x y : ByteArray) (t : Int) (rc : Int × Int) (r1 r2 r3 r4 r5 : List UInt8 × Int) (w : World) (hx : x.size + y.size ≤ 500)
    (h1 : CmpSays 24 x y rc)
    (h2 : CmpSays 25 x y rc)
    (h3 : PairSays 26 x y r1)
    (h4 : PairSays 27 x y r1)
    (h5 : PairSays 28 x y r2)
    (h6 : PairSays 29 x y r2)
    (h7 : PairSays 30 x y r3)
    (h8 : PairSays 31 x y r3)
    (h9 : DivSays 32 x y t r4)
    (h10 : DivSays 33 x y t r4)
    (h11 : PairSays 34 x y r5)
    (h12 : PairSays 35 x y r5) :
    Calls Try.prog 5 #[.string x, .string y, .int .i64 t] w fun e w' => e = .returned (.bool true) ∧ Below w.heap.size w w' := by
  have T0 := (Blk.nil w).lay rfl #[.string x, .string y] 9
  have c0 : World.cell? _ ⟨w.heap.size, 0, none⟩ = some (.string x) := T0.cell 0 rfl 0
  have c1 : World.cell? _ ⟨w.heap.size, 1, none⟩ = some (.string y) := T0.cell 0 rfl 1
  have LO := long_two x y w.heap.size _ (by omega) (by omega) c0 c1
  rw [decide_eq_false (by omega)] at LO
  have LO' := Lib.hid LO
  have H1 := Lib.hid h1
  have H2 := Lib.hid h2
  have H3 := Lib.hid h3
  have H4 := Lib.hid h4
  have H5 := Lib.hid h5
  have H6 := Lib.hid h6
  have H7 := Lib.hid h7
  have H8 := Lib.hid h8
  have H9 := Lib.hid h9
  have H10 := Lib.hid h10
  have H11 := Lib.hid h11
  have H12 := Lib.hid h12
  obtain ⟨rca, rcb⟩ := rc
  obtain ⟨r1a, r1b⟩ := r1
  obtain ⟨r2a, r2b⟩ := r2
  obtain ⟨r3a, r3b⟩ := r3
  obtain ⟨r4a, r4b⟩ := r4
  obtain ⟨r5a, r5b⟩ := r5
  clear LO h1 h2 h3 h4 h5 h6 h7 h8 h9 h10 h11 h12
  go_enter Try.func5, Try.ntmps5
  go_wp2_with (first
    | (go_at_call 8; refine LO'.out.mono ?_; rintro e w1 ⟨rfl, rfl⟩)
    | (go_at_call 24; refine (H1.out _).mono ?_; rintro e w1 ⟨rfl, hb⟩; have K1 := T0.kept hb; clear hb)
    | (go_at_call 25; refine (H2.out _).mono ?_; rintro e w2 ⟨rfl, hb⟩; have K2 := K1.kept hb; clear hb)
    | (go_at_call 26; refine (H3.out _).mono ?_; rintro e w3 ⟨rfl, hb⟩; have K3 := K2.kept hb; clear hb)
    | (go_at_call 27; refine (H4.out _).mono ?_; rintro e w4 ⟨rfl, hb⟩; have K4 := K3.kept hb; clear hb)
    | (go_at_call 28; refine (H5.out _).mono ?_; rintro e w5 ⟨rfl, hb⟩; have K5 := K4.kept hb; clear hb)
    | (go_at_call 29; refine (H6.out _).mono ?_; rintro e w6 ⟨rfl, hb⟩; have K6 := K5.kept hb; clear hb)
    | (go_at_call 30; refine (H7.out _).mono ?_; rintro e w7 ⟨rfl, hb⟩; have K7 := K6.kept hb; clear hb)
    | (go_at_call 31; refine (H8.out _).mono ?_; rintro e w8 ⟨rfl, hb⟩; have K8 := K7.kept hb; clear hb)
    | (go_at_call 32; refine (H9.out _).mono ?_; rintro e w9 ⟨rfl, hb⟩; have K9 := K8.kept hb; clear hb)
    | (go_at_call 33; refine (H10.out _).mono ?_; rintro e w10 ⟨rfl, hb⟩; have K10 := K9.kept hb; clear hb)
    | (go_at_call 34; refine (H11.out _).mono ?_; rintro e w11 ⟨rfl, hb⟩; have K11 := K10.kept hb; clear hb)
    | (go_at_call 35; refine (H12.out _).mono ?_; rintro e w12 ⟨rfl, hb⟩; have K12 := K11.kept hb; clear hb)
    | (go_at_call 9; have KK := K12; clear KK; refine (awake_any _).mono ?_; rintro e w13 ⟨rfl, hb⟩; have K13 := K12.kept hb; clear hb))
  go_ret
  exact ⟨rfl, K13.below⟩
theorem two_any (x y : ByteArray) (t : Int) (w : World) (hx : x.size ≤ 1125899906842624) (hy : y.size ≤ 1125899906842624) :
    Calls Try.prog 5 #[.string x, .string y, .int .i64 t] w fun e w' => e = .returned (.bool true) ∧ Below w.heap.size w w' := by
  by_cases h : 500 < x.size + y.size
  · exact two_long x y t w hx hy h
  · obtain ⟨l, rfl⟩ : ∃ l : List UInt8, x = ⟨l.toArray⟩ := ⟨x.data.toList, by cases x; simp⟩
    obtain ⟨m, rfl⟩ : ∃ m : List UInt8, y = ⟨m.toArray⟩ := ⟨y.data.toList, by cases y; simp⟩
    have hls : (ByteArray.mk l.toArray).size = l.length := rfl
    have hms : (ByteArray.mk m.toArray).size = m.length := rfl
    have hl : l.length ≤ 500 := by rw [hls] at h; omega
    have hm : m.length ≤ 500 := by rw [hms] at h; omega
    exact two_walk _ _ t (cmpR l m) (addR l m) (subR l m) (mulR l m) (divR l m t) (remR l m) w (by omega)
      (fun w => compare_all l m w hl hm) (fun w => rcompare_all l m w hl hm) (fun w => add_all l m w hl hm) (fun w => radd_all l m w hl hm)
      (fun w => sub_all l m w hl hm) (fun w => rsub_all l m w hl hm) (fun w => mul_all l m w hl hm) (fun w => rmul_all l m w hl hm)
      (fun w => div_all l m t w hl hm) (fun w => rdiv_all l m t w hl hm) (fun w => rem_all l m w hl hm) (fun w => rrem_all l m w hl hm)
end Go.Proofs.Ytkcogoibaodbeaa
