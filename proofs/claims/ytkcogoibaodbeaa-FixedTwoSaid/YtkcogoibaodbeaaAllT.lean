/- Compare, Add, Sub, Mul, Div, Rem of package fixed and of the references, for all texts. -/
import Derived.Test.YtkcogoibaodbeaaRefQ
import Derived.Test.YtkcogoibaodbeaaRem
import Derived.Test.YtkcogoibaodbeaaNo
set_option linter.unusedVariables false
set_option linter.unusedSimpArgs false
namespace Go.Proofs.Ytkcogoibaodbeaa
open Go.RowKit
attribute [local irreducible] ncells wcells txt ds dd
/-- Are both decimals? -/
def both (x y : List UInt8) : Bool := parseB x && parseB y
def nP (x y : List UInt8) : Bool × Nat := numPlus (negOf x) (uOf x) (sOf x) (negOf y) (uOf y) (sOf y)
def nM (x y : List UInt8) : Bool × Nat := numPlus (negOf x) (uOf x) (sOf x) (!(negOf y)) (uOf y) (sOf y)
def addR (x y : List UInt8) : List UInt8 × Int := if both x y = true then fittedR (nP x y).1 (nP x y).2 (max (sOf x) (sOf y)) else ([], 2)
def subR (x y : List UInt8) : List UInt8 × Int := if both x y = true then fittedR (nM x y).1 (nM x y).2 (max (sOf x) (sOf y)) else ([], 2)
def mulR (x y : List UInt8) : List UInt8 × Int := if both x y = true then fittedR (!(negOf x == negOf y)) (uOf x * uOf y) (sOf x + sOf y) else ([], 2)
def cmpR (x y : List UInt8) : Int × Int := if both x y = true then (cmpN (nM x y).1 (nM x y).2, 0) else (0, 2)
def divR (x y : List UInt8) (t : Int) : List UInt8 × Int := if both x y = true then (if (0 ≤ t ∧ t ≤ 31) ∧ uOf y ≠ 0 then wholeR (!(negOf x == negOf y)) (divQ (uOf x) (sOf x) (uOf y) (sOf y) t.toNat) t.toNat else ([], 7)) else ([], 2)
def remR (x y : List UInt8) : List UInt8 × Int := if both x y = true then (if uOf y ≠ 0 then wholeR (negOf x) (scU (uOf x) (sOf x) (max (sOf x) (sOf y)) % scU (uOf y) (sOf y) (max (sOf x) (sOf y))) (max (sOf x) (sOf y)) else ([], 7)) else ([], 2)
theorem both_no {x y : List UInt8} (h : both x y = false) : parseB x = false ∨ (parseB x = true ∧ parseB y = false) := by
  unfold both at h
  cases hx : parseB x
  · exact Or.inl rfl
  · rw [hx] at h; exact Or.inr ⟨rfl, h⟩
theorem both_yes {x y : List UInt8} (h : both x y = true) : parseB x = true ∧ parseB y = true := by
  unfold both at h; simpa using h
theorem two_no (x y : List UInt8) (F : Value) (w : World) (hx : x.length ≤ 500) (hy : y.length ≤ 500) (h : both x y = false) :
    Calls Try.prog 64 #[.string ⟨x.toArray⟩, .string ⟨y.toArray⟩, F] w fun e w' => e = .returned (.tuple #[.string ⟨#[]⟩, .int .i64 2]) ∧ Below w.heap.size w w' := by
  rcases both_no h with h | ⟨h1, h2⟩
  · exact two_no1 x y F w hx hy h
  · obtain ⟨g, e⟩ := parseB_good h1
    exact two_no2 x y F w hx hy _ _ _ g e h2
set_option maxRecDepth 100000 in
set_option maxHeartbeats 1000000 in
theorem add_all (x y : List UInt8) (w : World) (hx : x.length ≤ 500) (hy : y.length ≤ 500) :
    Calls Try.prog 26 #[.string ⟨x.toArray⟩, .string ⟨y.toArray⟩] w fun e w' => e = .returned (.tuple #[.string ⟨(addR x y).1.toArray⟩, .int .i64 (addR x y).2]) ∧ Below w.heap.size w w' := by
  cases h : both x y with
  | false =>
    rw [show addR x y = ([], 2) from if_neg (by rw [h]; decide)]
    have TN := Lib.hid (fun F w => two_no x y F w hx hy h)
    go_enter Try.func26, Try.ntmps26
    go_wp2_with (go_at_call 64; refine (TN.out _ _).mono ?_; rintro e w1 ⟨rfl, hb⟩; have K1 := (Blk.nil w).kept hb; clear hb)
    go_ret2
    exact ⟨rfl, K1.below⟩
  | true =>
    obtain ⟨px, py⟩ := both_yes h
    obtain ⟨gx, ex⟩ := parseB_good px
    obtain ⟨gy, ey⟩ := parseB_good py
    have c := add_yes _ _ _ _ _ _ w gx gy
    rw [ex, ey] at c
    rw [show addR x y = _ from if_pos h]
    exact c
set_option maxRecDepth 100000 in
set_option maxHeartbeats 1000000 in
theorem sub_all (x y : List UInt8) (w : World) (hx : x.length ≤ 500) (hy : y.length ≤ 500) :
    Calls Try.prog 28 #[.string ⟨x.toArray⟩, .string ⟨y.toArray⟩] w fun e w' => e = .returned (.tuple #[.string ⟨(subR x y).1.toArray⟩, .int .i64 (subR x y).2]) ∧ Below w.heap.size w w' := by
  cases h : both x y with
  | false =>
    rw [show subR x y = ([], 2) from if_neg (by rw [h]; decide)]
    have TN := Lib.hid (fun F w => two_no x y F w hx hy h)
    go_enter Try.func28, Try.ntmps28
    go_wp2_with (go_at_call 64; refine (TN.out _ _).mono ?_; rintro e w1 ⟨rfl, hb⟩; have K1 := (Blk.nil w).kept hb; clear hb)
    go_ret2
    exact ⟨rfl, K1.below⟩
  | true =>
    obtain ⟨px, py⟩ := both_yes h
    obtain ⟨gx, ex⟩ := parseB_good px
    obtain ⟨gy, ey⟩ := parseB_good py
    have c := sub_yes _ _ _ _ _ _ w gx gy
    rw [ex, ey] at c
    rw [show subR x y = _ from if_pos h]
    exact c
set_option maxRecDepth 100000 in
set_option maxHeartbeats 1000000 in
theorem mul_all (x y : List UInt8) (w : World) (hx : x.length ≤ 500) (hy : y.length ≤ 500) :
    Calls Try.prog 30 #[.string ⟨x.toArray⟩, .string ⟨y.toArray⟩] w fun e w' => e = .returned (.tuple #[.string ⟨(mulR x y).1.toArray⟩, .int .i64 (mulR x y).2]) ∧ Below w.heap.size w w' := by
  cases h : both x y with
  | false =>
    rw [show mulR x y = ([], 2) from if_neg (by rw [h]; decide)]
    have TN := Lib.hid (fun F w => two_no x y F w hx hy h)
    go_enter Try.func30, Try.ntmps30
    go_wp2_with (go_at_call 64; refine (TN.out _ _).mono ?_; rintro e w1 ⟨rfl, hb⟩; have K1 := (Blk.nil w).kept hb; clear hb)
    go_ret2
    exact ⟨rfl, K1.below⟩
  | true =>
    obtain ⟨px, py⟩ := both_yes h
    obtain ⟨gx, ex⟩ := parseB_good px
    obtain ⟨gy, ey⟩ := parseB_good py
    have c := mul_yes _ _ _ _ _ _ w gx gy
    rw [ex, ey] at c
    rw [show mulR x y = _ from if_pos h]
    exact c
theorem compare_all (x y : List UInt8) (w : World) (hx : x.length ≤ 500) (hy : y.length ≤ 500) :
    Calls Try.prog 24 #[.string ⟨x.toArray⟩, .string ⟨y.toArray⟩] w fun e w' => e = .returned (.tuple #[.int .i64 (cmpR x y).1, .int .i64 (cmpR x y).2]) ∧ Below w.heap.size w w' := by
  cases h : both x y with
  | false =>
    rw [show cmpR x y = (0, 2) from if_neg (by rw [h]; decide)]
    rcases both_no h with h | ⟨h1, h2⟩
    · exact compare_no1 x y w hx hy h
    · obtain ⟨g, e⟩ := parseB_good h1
      exact compare_no2 x y w hx hy _ _ _ g e h2
  | true =>
    obtain ⟨px, py⟩ := both_yes h
    obtain ⟨gx, ex⟩ := parseB_good px
    obtain ⟨gy, ey⟩ := parseB_good py
    have c := compare_yes _ _ _ _ _ _ w gx gy
    rw [ex, ey] at c
    rw [show cmpR x y = _ from if_pos h]
    exact c
set_option maxRecDepth 100000 in
set_option maxHeartbeats 1000000 in
theorem div_range (na : Bool) (a sa : Nat) (nb : Bool) (b sb : Nat) (t : Int) (w : World) (ha : Good na a sa) (hb : Good nb b sb) (ht : ¬ (0 ≤ t ∧ t ≤ 31)) :
    Calls Try.prog 32 #[.string ⟨(txt na a sa).toArray⟩, .string ⟨(txt nb b sb).toArray⟩, .int .i64 t] w fun e w' => e = .returned (.tuple #[.string ⟨#[]⟩, .int .i64 7]) ∧ Below w.heap.size w w' := by
  have GA := Lib.hid ha
  have GB := Lib.hid hb
  clear ha hb
  rcases (show t < 0 ∨ (¬ t < 0 ∧ 31 < t) by omega) with h1 | ⟨h1, h2⟩
  all_goals
    clear ht
    go_enter Try.func32, Try.ntmps32
    go_wp2_with (first
      | (go_at_call 50; have XX := X1; clear XX; refine (parse_yes _ _ _ _ GB.out).mono ?_; rintro e w2 ⟨rfl, hb⟩; have K2 := (K1.more _).kept hb; have X2 := X1.kept hb; clear hb; have r0 : rowOf _ (w1.heap.size) = _ := X2.row 0 _ rfl; have l0 : w1.heap.size < w2.heap.size := X2.lt 0 rfl; have n0 := Nat.ne_of_lt l0; have n1 := Ne.symm n0; have q0 : rowOf (w2.alloc (.cells (ncells nb b sb) 46)) (w1.heap.size) = ncells na a sa := (X2.more _).row 0 _ rfl)
      | (go_at_call 50; refine (parse_yes _ _ _ _ GA.out).mono ?_; rintro e w1 ⟨rfl, hb⟩; have K1 := (Blk.nil w).kept hb; clear hb; have X1 := (Blk.nil w1).lay rfl (ncells na a sa) 46))
    go_ret2
    exact ⟨rfl, (K2.more _).below⟩
theorem div_all (x y : List UInt8) (t : Int) (w : World) (hx : x.length ≤ 500) (hy : y.length ≤ 500) :
    Calls Try.prog 32 #[.string ⟨x.toArray⟩, .string ⟨y.toArray⟩, .int .i64 t] w fun e w' => e = .returned (.tuple #[.string ⟨(divR x y t).1.toArray⟩, .int .i64 (divR x y t).2]) ∧ Below w.heap.size w w' := by
  cases h : both x y with
  | false =>
    rw [show divR x y t = ([], 2) from if_neg (by rw [h]; decide)]
    rcases both_no h with h | ⟨h1, h2⟩
    · exact div_no1 x y t w hx hy h
    · obtain ⟨g, e⟩ := parseB_good h1
      exact div_no2 x y t w hx hy _ _ _ g e h2
  | true =>
    obtain ⟨px, py⟩ := both_yes h
    obtain ⟨gx, ex⟩ := parseB_good px
    obtain ⟨gy, ey⟩ := parseB_good py
    rw [show divR x y t = _ from if_pos h]
    by_cases ht : 0 ≤ t ∧ t ≤ 31
    · obtain ⟨n, rfl⟩ : ∃ n : Nat, t = n := ⟨t.toNat, by omega⟩
      by_cases h0 : uOf y ≠ 0
      · rw [if_pos ⟨ht, h0⟩, Int.toNat_natCast]
        have c := div_yes _ _ _ _ _ _ n w gx gy (by omega) h0
        rw [ex, ey] at c
        exact c
      · rw [if_neg (fun e => h0 e.2)]
        have h0' : uOf y = 0 := by
          rcases Nat.eq_zero_or_pos (uOf y) with h | h
          · exact h
          · exact absurd (Nat.ne_of_gt h) h0
        rw [h0'] at gy ey
        have c := div_zero _ _ _ _ _ n w gx gy (by omega)
        rw [ex, ey] at c
        exact c
    · rw [if_neg (fun e => ht e.1)]
      have c := div_range _ _ _ _ _ _ t w gx gy ht
      rw [ex, ey] at c
      exact c
theorem rem_all (x y : List UInt8) (w : World) (hx : x.length ≤ 500) (hy : y.length ≤ 500) :
    Calls Try.prog 34 #[.string ⟨x.toArray⟩, .string ⟨y.toArray⟩] w fun e w' => e = .returned (.tuple #[.string ⟨(remR x y).1.toArray⟩, .int .i64 (remR x y).2]) ∧ Below w.heap.size w w' := by
  cases h : both x y with
  | false =>
    rw [show remR x y = ([], 2) from if_neg (by rw [h]; decide)]
    rcases both_no h with h | ⟨h1, h2⟩
    · exact rem_no1 x y w hx hy h
    · obtain ⟨g, e⟩ := parseB_good h1
      exact rem_no2 x y w hx hy _ _ _ g e h2
  | true =>
    obtain ⟨px, py⟩ := both_yes h
    obtain ⟨gx, ex⟩ := parseB_good px
    obtain ⟨gy, ey⟩ := parseB_good py
    rw [show remR x y = _ from if_pos h]
    by_cases h0 : uOf y ≠ 0
    · rw [if_pos h0]
      have c := rem_yes _ _ _ _ _ _ w gx gy h0
      rw [ex, ey] at c
      exact c
    · rw [if_neg h0]
      have h0' : uOf y = 0 := by
        rcases Nat.eq_zero_or_pos (uOf y) with h | h
        · exact h
        · exact absurd (Nat.ne_of_gt h) h0
      rw [h0'] at gy ey
      have c := rem_zero _ _ _ _ _ w gx gy
      rw [ex, ey] at c
      exact c
/-- A text, read by the references. -/
def readC (l : List UInt8) : Array Value := if parseB l = true then rcells (negOf l) (uOf l) (sOf l) else rzero
theorem readR_eq (l : List UInt8) : readR l = #[.agg (readC l), .bool (parseB l)] := by
  unfold readR readC
  cases parseB l <;> rfl
theorem readC_size (l : List UInt8) : (readC l).size = 3 := by
  unfold readC
  split
  · exact rcells_size _ _ _
  · exact rzero_size
theorem readC_one (l : List UInt8) : oneCells (readC l) = true := by
  unfold readC
  split
  · exact rcells_one _ _ _
  · exact rzero_one
theorem rtwo_all (x y : List UInt8) (w : World) (hx : x.length ≤ 500) (hy : y.length ≤ 500) :
    Calls Try.prog 61 #[.string ⟨x.toArray⟩, .string ⟨y.toArray⟩] w fun e w' => e = .returned (.tuple #[.agg (readC x), .agg (readC y), .bool (both x y)]) ∧ Below w.heap.size w w' :=
  rtwo_any x y w hx hy _ _ _ _ (readR_eq x) (readR_eq y) (readC_size x) (readC_size y) (readC_one x) (readC_one y)
theorem rtwo_yes {x y : List UInt8} (w : World) (hx : x.length ≤ 500) (hy : y.length ≤ 500) (h : both x y = true) :
    Calls Try.prog 61 #[.string ⟨x.toArray⟩, .string ⟨y.toArray⟩] w fun e w' => e = .returned (.tuple #[.agg (rcells (negOf x) (uOf x) (sOf x)), .agg (rcells (negOf y) (uOf y) (sOf y)), .bool true]) ∧ Below w.heap.size w w' := by
  obtain ⟨px, py⟩ := both_yes h
  have c := rtwo_all x y w hx hy
  rw [h, show readC x = _ from if_pos px, show readC y = _ from if_pos py] at c
  exact c
theorem good_sgn_self {n : Bool} {u s : Nat} (g : Good n u s) : sgn n u = n := by
  unfold sgn
  cases n with
  | false => rfl
  | true => rw [beq_eq_false_iff_ne.2 (g.sign rfl)]; rfl
set_option maxRecDepth 100000 in
set_option maxHeartbeats 1000000 in
theorem radd_bad (x y : List UInt8) (cx cy : Array Value) (w : World) (nx : cx.size = 3) (ny : cy.size = 3) (ox : oneCells cx = true) (oy : oneCells cy = true)
    (TW : ∀ w, Calls Try.prog 61 #[.string ⟨x.toArray⟩, .string ⟨y.toArray⟩] w fun e w' => e = .returned (.tuple #[.agg cx, .agg cy, .bool false]) ∧ Below w.heap.size w w') :
    Calls Try.prog 27 #[.string ⟨x.toArray⟩, .string ⟨y.toArray⟩] w fun e w' => e = .returned (.tuple #[.string ⟨#[]⟩, .int .i64 2]) ∧ Below w.heap.size w w' := by
  have TW' := Lib.hid TW
  clear TW
  have sx' : ∀ a b c, splice #[a, b, c] 0 cx = cx := fun a b c => splice_all _ _ (by rw [nx]; rfl)
  have sy' : ∀ a b c, splice #[a, b, c] 0 cy = cy := fun a b c => splice_all _ _ (by rw [ny]; rfl)
  go_enter Try.func27, Try.ntmps27
  go_wp2_with (go_at_call 61; refine (TW'.out _).mono ?_; rintro e w1 ⟨rfl, hb⟩; have K1 := (Blk.nil w).kept hb; clear hb)
  go_ret2
  exact ⟨rfl, ((K1.more _).more _).below⟩
set_option maxRecDepth 100000 in
set_option maxHeartbeats 1000000 in
theorem rsub_bad (x y : List UInt8) (cx cy : Array Value) (w : World) (nx : cx.size = 3) (ny : cy.size = 3) (ox : oneCells cx = true) (oy : oneCells cy = true)
    (TW : ∀ w, Calls Try.prog 61 #[.string ⟨x.toArray⟩, .string ⟨y.toArray⟩] w fun e w' => e = .returned (.tuple #[.agg cx, .agg cy, .bool false]) ∧ Below w.heap.size w w') :
    Calls Try.prog 29 #[.string ⟨x.toArray⟩, .string ⟨y.toArray⟩] w fun e w' => e = .returned (.tuple #[.string ⟨#[]⟩, .int .i64 2]) ∧ Below w.heap.size w w' := by
  have TW' := Lib.hid TW
  clear TW
  have sx' : ∀ a b c, splice #[a, b, c] 0 cx = cx := fun a b c => splice_all _ _ (by rw [nx]; rfl)
  have sy' : ∀ a b c, splice #[a, b, c] 0 cy = cy := fun a b c => splice_all _ _ (by rw [ny]; rfl)
  go_enter Try.func29, Try.ntmps29
  go_wp2_with (go_at_call 61; refine (TW'.out _).mono ?_; rintro e w1 ⟨rfl, hb⟩; have K1 := (Blk.nil w).kept hb; clear hb)
  go_ret2
  exact ⟨rfl, ((K1.more _).more _).below⟩
set_option maxRecDepth 100000 in
set_option maxHeartbeats 1000000 in
theorem rmul_bad (x y : List UInt8) (cx cy : Array Value) (w : World) (nx : cx.size = 3) (ny : cy.size = 3) (ox : oneCells cx = true) (oy : oneCells cy = true)
    (TW : ∀ w, Calls Try.prog 61 #[.string ⟨x.toArray⟩, .string ⟨y.toArray⟩] w fun e w' => e = .returned (.tuple #[.agg cx, .agg cy, .bool false]) ∧ Below w.heap.size w w') :
    Calls Try.prog 31 #[.string ⟨x.toArray⟩, .string ⟨y.toArray⟩] w fun e w' => e = .returned (.tuple #[.string ⟨#[]⟩, .int .i64 2]) ∧ Below w.heap.size w w' := by
  have TW' := Lib.hid TW
  clear TW
  have sx' : ∀ a b c, splice #[a, b, c] 0 cx = cx := fun a b c => splice_all _ _ (by rw [nx]; rfl)
  have sy' : ∀ a b c, splice #[a, b, c] 0 cy = cy := fun a b c => splice_all _ _ (by rw [ny]; rfl)
  go_enter Try.func31, Try.ntmps31
  go_wp2_with (go_at_call 61; refine (TW'.out _).mono ?_; rintro e w1 ⟨rfl, hb⟩; have K1 := (Blk.nil w).kept hb; clear hb)
  go_ret2
  exact ⟨rfl, ((K1.more _).more _).below⟩
set_option maxRecDepth 100000 in
set_option maxHeartbeats 1000000 in
theorem rrem_bad (x y : List UInt8) (cx cy : Array Value) (w : World) (nx : cx.size = 3) (ny : cy.size = 3) (ox : oneCells cx = true) (oy : oneCells cy = true)
    (TW : ∀ w, Calls Try.prog 61 #[.string ⟨x.toArray⟩, .string ⟨y.toArray⟩] w fun e w' => e = .returned (.tuple #[.agg cx, .agg cy, .bool false]) ∧ Below w.heap.size w w') :
    Calls Try.prog 35 #[.string ⟨x.toArray⟩, .string ⟨y.toArray⟩] w fun e w' => e = .returned (.tuple #[.string ⟨#[]⟩, .int .i64 2]) ∧ Below w.heap.size w w' := by
  have TW' := Lib.hid TW
  clear TW
  have sx' : ∀ a b c, splice #[a, b, c] 0 cx = cx := fun a b c => splice_all _ _ (by rw [nx]; rfl)
  have sy' : ∀ a b c, splice #[a, b, c] 0 cy = cy := fun a b c => splice_all _ _ (by rw [ny]; rfl)
  go_enter Try.func35, Try.ntmps35
  go_wp2_with (go_at_call 61; refine (TW'.out _).mono ?_; rintro e w1 ⟨rfl, hb⟩; have K1 := (Blk.nil w).kept hb; clear hb)
  go_ret2
  exact ⟨rfl, ((K1.more _).more _).below⟩
set_option maxRecDepth 100000 in
set_option maxHeartbeats 1000000 in
theorem rcompare_bad (x y : List UInt8) (cx cy : Array Value) (w : World) (nx : cx.size = 3) (ny : cy.size = 3) (ox : oneCells cx = true) (oy : oneCells cy = true)
    (TW : ∀ w, Calls Try.prog 61 #[.string ⟨x.toArray⟩, .string ⟨y.toArray⟩] w fun e w' => e = .returned (.tuple #[.agg cx, .agg cy, .bool false]) ∧ Below w.heap.size w w') :
    Calls Try.prog 25 #[.string ⟨x.toArray⟩, .string ⟨y.toArray⟩] w fun e w' => e = .returned (.tuple #[.int .i64 0, .int .i64 2]) ∧ Below w.heap.size w w' := by
  have TW' := Lib.hid TW
  clear TW
  have sx' : ∀ a b c, splice #[a, b, c] 0 cx = cx := fun a b c => splice_all _ _ (by rw [nx]; rfl)
  have sy' : ∀ a b c, splice #[a, b, c] 0 cy = cy := fun a b c => splice_all _ _ (by rw [ny]; rfl)
  go_enter Try.func25, Try.ntmps25
  go_wp2_with (go_at_call 61; refine (TW'.out _).mono ?_; rintro e w1 ⟨rfl, hb⟩; have K1 := (Blk.nil w).kept hb; clear hb)
  go_ret2
  exact ⟨rfl, ((K1.more _).more _).below⟩
set_option maxRecDepth 100000 in
set_option maxHeartbeats 1000000 in
theorem rdiv_bad (x y : List UInt8) (t : Int) (cx cy : Array Value) (w : World) (nx : cx.size = 3) (ny : cy.size = 3) (ox : oneCells cx = true) (oy : oneCells cy = true)
    (TW : ∀ w, Calls Try.prog 61 #[.string ⟨x.toArray⟩, .string ⟨y.toArray⟩] w fun e w' => e = .returned (.tuple #[.agg cx, .agg cy, .bool false]) ∧ Below w.heap.size w w') :
    Calls Try.prog 33 #[.string ⟨x.toArray⟩, .string ⟨y.toArray⟩, .int .i64 t] w fun e w' => e = .returned (.tuple #[.string ⟨#[]⟩, .int .i64 2]) ∧ Below w.heap.size w w' := by
  have TW' := Lib.hid TW
  clear TW
  have sx' : ∀ a b c, splice #[a, b, c] 0 cx = cx := fun a b c => splice_all _ _ (by rw [nx]; rfl)
  have sy' : ∀ a b c, splice #[a, b, c] 0 cy = cy := fun a b c => splice_all _ _ (by rw [ny]; rfl)
  go_enter Try.func33, Try.ntmps33
  go_wp2_with (go_at_call 61; refine (TW'.out _).mono ?_; rintro e w1 ⟨rfl, hb⟩; have K1 := (Blk.nil w).kept hb; clear hb)
  go_ret2
  exact ⟨rfl, ((K1.more _).more _).below⟩
theorem radd_all (x y : List UInt8) (w : World) (hx : x.length ≤ 500) (hy : y.length ≤ 500) :
    Calls Try.prog 27 #[.string ⟨x.toArray⟩, .string ⟨y.toArray⟩] w fun e w' => e = .returned (.tuple #[.string ⟨(addR x y).1.toArray⟩, .int .i64 (addR x y).2]) ∧ Below w.heap.size w w' := by
  cases h : both x y with
  | false =>
    rw [show addR x y = ([], 2) from if_neg (by rw [h]; decide)]
    have TW := fun w => rtwo_all x y w hx hy
    rw [h] at TW
    exact radd_bad x y _ _ w (readC_size x) (readC_size y) (readC_one x) (readC_one y) TW
  | true =>
    obtain ⟨px, py⟩ := both_yes h
    obtain ⟨gx, ex⟩ := parseB_good px
    obtain ⟨gy, ey⟩ := parseB_good py
    rw [show addR x y = _ from if_pos h]
    exact radd_yes x y _ _ _ _ _ _ w (fun w => rtwo_yes w hx hy h) (good_sgn_self gx) (good_sgn_self gy) gx.u31 gy.u31 gx.s31 gy.s31
theorem rsub_all (x y : List UInt8) (w : World) (hx : x.length ≤ 500) (hy : y.length ≤ 500) :
    Calls Try.prog 29 #[.string ⟨x.toArray⟩, .string ⟨y.toArray⟩] w fun e w' => e = .returned (.tuple #[.string ⟨(subR x y).1.toArray⟩, .int .i64 (subR x y).2]) ∧ Below w.heap.size w w' := by
  cases h : both x y with
  | false =>
    rw [show subR x y = ([], 2) from if_neg (by rw [h]; decide)]
    have TW := fun w => rtwo_all x y w hx hy
    rw [h] at TW
    exact rsub_bad x y _ _ w (readC_size x) (readC_size y) (readC_one x) (readC_one y) TW
  | true =>
    obtain ⟨px, py⟩ := both_yes h
    obtain ⟨gx, ex⟩ := parseB_good px
    obtain ⟨gy, ey⟩ := parseB_good py
    rw [show subR x y = _ from if_pos h]
    exact rsub_yes x y _ _ _ _ _ _ w (fun w => rtwo_yes w hx hy h) (good_sgn_self gx) (good_sgn_self gy) gx.u31 gy.u31 gx.s31 gy.s31
theorem rmul_all (x y : List UInt8) (w : World) (hx : x.length ≤ 500) (hy : y.length ≤ 500) :
    Calls Try.prog 31 #[.string ⟨x.toArray⟩, .string ⟨y.toArray⟩] w fun e w' => e = .returned (.tuple #[.string ⟨(mulR x y).1.toArray⟩, .int .i64 (mulR x y).2]) ∧ Below w.heap.size w w' := by
  cases h : both x y with
  | false =>
    rw [show mulR x y = ([], 2) from if_neg (by rw [h]; decide)]
    have TW := fun w => rtwo_all x y w hx hy
    rw [h] at TW
    exact rmul_bad x y _ _ w (readC_size x) (readC_size y) (readC_one x) (readC_one y) TW
  | true =>
    obtain ⟨px, py⟩ := both_yes h
    obtain ⟨gx, ex⟩ := parseB_good px
    obtain ⟨gy, ey⟩ := parseB_good py
    rw [show mulR x y = _ from if_pos h]
    exact rmul_yes x y _ _ _ _ _ _ w (fun w => rtwo_yes w hx hy h) (good_sgn_self gx) (good_sgn_self gy) gx.u31 gy.u31 gx.s31 gy.s31
theorem rcompare_all (x y : List UInt8) (w : World) (hx : x.length ≤ 500) (hy : y.length ≤ 500) :
    Calls Try.prog 25 #[.string ⟨x.toArray⟩, .string ⟨y.toArray⟩] w fun e w' => e = .returned (.tuple #[.int .i64 (cmpR x y).1, .int .i64 (cmpR x y).2]) ∧ Below w.heap.size w w' := by
  cases h : both x y with
  | false =>
    rw [show cmpR x y = (0, 2) from if_neg (by rw [h]; decide)]
    have TW := fun w => rtwo_all x y w hx hy
    rw [h] at TW
    exact rcompare_bad x y _ _ w (readC_size x) (readC_size y) (readC_one x) (readC_one y) TW
  | true =>
    obtain ⟨px, py⟩ := both_yes h
    obtain ⟨gx, ex⟩ := parseB_good px
    obtain ⟨gy, ey⟩ := parseB_good py
    rw [show cmpR x y = _ from if_pos h]
    exact rcmp_yes x y _ _ _ _ _ _ w (fun w => rtwo_yes w hx hy h) (good_sgn_self gx) (good_sgn_self gy) gx.u31 gy.u31 gx.s31 gy.s31
set_option maxRecDepth 100000 in
set_option maxHeartbeats 1000000 in
theorem rdiv_range (x y : List UInt8) (na : Bool) (a sa : Nat) (nb : Bool) (b sb : Nat) (t : Int) (w : World) (TW : ∀ w, Calls Try.prog 61 #[.string ⟨x.toArray⟩, .string ⟨y.toArray⟩] w fun e w' => e = .returned (.tuple #[.agg (rcells na a sa), .agg (rcells nb b sb), .bool true]) ∧ Below w.heap.size w w')
    (ht : ¬ ((0 ≤ t ∧ t ≤ 31) ∧ b ≠ 0)) :
    Calls Try.prog 33 #[.string ⟨x.toArray⟩, .string ⟨y.toArray⟩, .int .i64 t] w fun e w' => e = .returned (.tuple #[.string ⟨#[]⟩, .int .i64 7]) ∧ Below w.heap.size w w' := by
  have TW' := Lib.hid TW
  clear TW
  have SC0 := fun w => rscaled_any t w
  by_cases h : 0 ≤ t ∧ t ≤ 31
  · rw [decide_eq_true h] at SC0
    have hb : b = 0 := by
      rcases Nat.eq_zero_or_pos b with h1 | h1
      · exact h1
      · exact absurd ⟨h, Nat.ne_of_gt h1⟩ ht
    subst hb
    have SC := Lib.hid SC0
    have hd : (ds 0 == [48]) = true := by rw [ds_beq]; rfl
    clear SC0 ht h
    go_enter Try.func33, Try.ntmps33
    go_wp2_with (first
      | (go_at_call 61; refine (TW'.out _).mono ?_; rintro e w1 ⟨rfl, hb⟩; have K1 := (Blk.nil w).kept hb; clear hb)
      | (go_at_call 42; refine (SC.out _).mono ?_; rintro e wz ⟨rfl, hwz⟩; obtain rfl := hwz.symm))
    go_ret2
    exact ⟨rfl, ((K1.more _).more _).below⟩
  · rw [decide_eq_false h] at SC0
    have SC := Lib.hid SC0
    clear SC0 ht h
    go_enter Try.func33, Try.ntmps33
    go_wp2_with (first
      | (go_at_call 61; refine (TW'.out _).mono ?_; rintro e w1 ⟨rfl, hb⟩; have K1 := (Blk.nil w).kept hb; clear hb)
      | (go_at_call 42; refine (SC.out _).mono ?_; rintro e wz ⟨rfl, hwz⟩; obtain rfl := hwz.symm))
    go_ret2
    exact ⟨rfl, ((K1.more _).more _).below⟩
set_option maxRecDepth 100000 in
set_option maxHeartbeats 1000000 in
theorem rrem_zero (x y : List UInt8) (na : Bool) (a sa : Nat) (nb : Bool) (sb : Nat) (w : World) (TW : ∀ w, Calls Try.prog 61 #[.string ⟨x.toArray⟩, .string ⟨y.toArray⟩] w fun e w' => e = .returned (.tuple #[.agg (rcells na a sa), .agg (rcells nb 0 sb), .bool true]) ∧ Below w.heap.size w w') :
    Calls Try.prog 35 #[.string ⟨x.toArray⟩, .string ⟨y.toArray⟩] w fun e w' => e = .returned (.tuple #[.string ⟨#[]⟩, .int .i64 7]) ∧ Below w.heap.size w w' := by
  have TW' := Lib.hid TW
  clear TW
  have hd : (ds 0 == [48]) = true := by rw [ds_beq]; rfl
  go_enter Try.func35, Try.ntmps35
  go_wp2_with (go_at_call 61; refine (TW'.out _).mono ?_; rintro e w1 ⟨rfl, hb⟩; have K1 := (Blk.nil w).kept hb; clear hb)
  go_ret2
  exact ⟨rfl, ((K1.more _).more _).below⟩
theorem rdiv_all (x y : List UInt8) (t : Int) (w : World) (hx : x.length ≤ 500) (hy : y.length ≤ 500) :
    Calls Try.prog 33 #[.string ⟨x.toArray⟩, .string ⟨y.toArray⟩, .int .i64 t] w fun e w' => e = .returned (.tuple #[.string ⟨(divR x y t).1.toArray⟩, .int .i64 (divR x y t).2]) ∧ Below w.heap.size w w' := by
  cases h : both x y with
  | false =>
    rw [show divR x y t = ([], 2) from if_neg (by rw [h]; decide)]
    have TW := fun w => rtwo_all x y w hx hy
    rw [h] at TW
    exact rdiv_bad x y t _ _ w (readC_size x) (readC_size y) (readC_one x) (readC_one y) TW
  | true =>
    obtain ⟨px, py⟩ := both_yes h
    obtain ⟨gx, ex⟩ := parseB_good px
    obtain ⟨gy, ey⟩ := parseB_good py
    rw [show divR x y t = _ from if_pos h]
    by_cases ht : (0 ≤ t ∧ t ≤ 31) ∧ uOf y ≠ 0
    · obtain ⟨n, rfl⟩ : ∃ n : Nat, t = n := ⟨t.toNat, by omega⟩
      rw [if_pos ht, Int.toNat_natCast]
      exact rdiv_yes x y _ _ _ _ _ _ n w (fun w => rtwo_yes w hx hy h) (good_sgn_self gx) (good_sgn_self gy) gx.u31 gy.u31 gx.s31 gy.s31 (by omega) ht.2
    · rw [if_neg ht]
      exact rdiv_range x y _ _ _ _ _ _ t w (fun w => rtwo_yes w hx hy h) ht
theorem rrem_all (x y : List UInt8) (w : World) (hx : x.length ≤ 500) (hy : y.length ≤ 500) :
    Calls Try.prog 35 #[.string ⟨x.toArray⟩, .string ⟨y.toArray⟩] w fun e w' => e = .returned (.tuple #[.string ⟨(remR x y).1.toArray⟩, .int .i64 (remR x y).2]) ∧ Below w.heap.size w w' := by
  cases h : both x y with
  | false =>
    rw [show remR x y = ([], 2) from if_neg (by rw [h]; decide)]
    have TW := fun w => rtwo_all x y w hx hy
    rw [h] at TW
    exact rrem_bad x y _ _ w (readC_size x) (readC_size y) (readC_one x) (readC_one y) TW
  | true =>
    obtain ⟨px, py⟩ := both_yes h
    obtain ⟨gx, ex⟩ := parseB_good px
    obtain ⟨gy, ey⟩ := parseB_good py
    rw [show remR x y = _ from if_pos h]
    have TW := fun w => rtwo_yes (x := x) (y := y) w hx hy h
    by_cases h0 : uOf y ≠ 0
    · rw [if_pos h0]
      exact rrem_yes x y _ _ _ _ _ _ w TW (good_sgn_self gx) (good_sgn_self gy) gx.u31 gy.u31 gx.s31 gy.s31 h0
    · rw [if_neg h0]
      have h0' : uOf y = 0 := by
        rcases Nat.eq_zero_or_pos (uOf y) with h | h
        · exact h
        · exact absurd (Nat.ne_of_gt h) h0
      rw [h0'] at TW
      exact rrem_zero x y _ _ _ _ _ w TW
end Go.Proofs.Ytkcogoibaodbeaa
