/- The references' Compare, Add, Sub, Mul, Div, Rem. -/
import Derived.Test.YtkcogoibaodbeaaRefP
set_option linter.unusedVariables false
set_option linter.unusedSimpArgs false
namespace Go.Proofs.Ytkcogoibaodbeaa
open Go.RowKit
attribute [local go_sem] ByteArray.mk_append_mk ByteArray.extract_mk
theorem plusN_zero (na nb : Bool) (X : Nat) : plusN na X nb 0 = (na, X) := by
  unfold plusN
  split
  · rw [Nat.add_zero]
  · rw [if_pos (Nat.zero_le _), Nat.sub_zero]
theorem plusN_sgn (na nb : Bool) (X Y : Nat) : plusN na X (sgn nb Y) Y = plusN na X nb Y := by
  by_cases h : Y = 0
  · subst h; rw [plusN_zero, plusN_zero]
  · have : sgn nb Y = nb := by unfold sgn; rw [beq_eq_false_iff_ne.2 h]; cases nb <;> rfl
    rw [this]
theorem scU_zero_iff {u s t : Nat} (h : s ≤ t) : scU u s t = 0 ↔ u = 0 := by
  rw [scU_up h, Nat.mul_eq_zero]
  constructor
  · rintro (h | h)
    · exact h
    · exact absurd h (Nat.ne_of_gt (Nat.pow_pos (by decide)))
  · exact Or.inl
theorem sgn_same {n : Bool} {u v : Nat} (h : u = 0 ↔ v = 0) : sgn n u = sgn n v := by
  unfold sgn
  by_cases hu : u = 0
  · rw [hu, h.1 hu]
  · rw [beq_eq_false_iff_ne.2 hu, beq_eq_false_iff_ne.2 (fun e => hu (h.2 e))]
theorem numPlus_sgn (na : Bool) (a sa : Nat) (nb : Bool) (b sb : Nat) : numPlus na a sa (sgn nb b) b sb = numPlus na a sa nb b sb := by
  unfold numPlus
  rw [← sgn_same (n := nb) (scU_zero_iff (u := b) (s := sb) (t := max sa sb) (by omega)), plusN_sgn]
theorem sgn_sgn (n : Bool) (u : Nat) : sgn (sgn n u) u = sgn n u := by unfold sgn; cases n <;> cases (u == 0) <;> rfl
theorem plusN_lt63 {na nb : Bool} {X Y : Nat} (hX : X < 10 ^ 62) (hY : Y < 10 ^ 62) : dl (plusN na X nb Y).2 ≤ 63 := by
  refine dl_le_of (by decide) ?_
  have e : (10 : Nat) ^ 63 = 10 ^ 62 * 10 := by rw [← Nat.pow_succ]
  unfold plusN
  split
  · show X + Y < _; omega
  · split
    · show X - Y < _; omega
    · show Y - X < _; omega
@[go_sem] theorem run_field_ref (n : Bool) (u s : Nat) (W : World) : Sem.run Try.prog (Instr.field 50 (.agg (rcells n u s)) 1) W = .ok (.string ⟨(ds u).toArray⟩) W := by kernel_rfl
attribute [local irreducible] ds dd txt fittedR numPlus
theorem numPlus_dl {na : Bool} {a sa : Nat} {nb : Bool} {b sb : Nat} (ha : dl a ≤ 31) (hb : dl b ≤ 31) (hsa : sa ≤ 31) (hsb : sb ≤ 31) : dl (numPlus na a sa nb b sb).2 ≤ 63 := by
  unfold numPlus
  exact plusN_lt63 (sc_lt ha (by omega)) (sc_lt hb (by omega))
set_option maxRecDepth 100000 in
set_option maxHeartbeats 8000000 in
theorem radd_yes (x y : List UInt8) (na : Bool) (a sa : Nat) (nb : Bool) (b sb : Nat) (w : World) (TW : ∀ w, Calls Try.prog 61 #[.string ⟨x.toArray⟩, .string ⟨y.toArray⟩] w fun e w' => e = .returned (.tuple #[.agg (rcells na a sa), .agg (rcells nb b sb), .bool true]) ∧ Below w.heap.size w w')
    (hna : sgn na a = na) (hnb : sgn nb b = nb) (ha : dl a ≤ 31) (hb : dl b ≤ 31) (hsa : sa ≤ 31) (hsb : sb ≤ 31) :
    Calls Try.prog 27 #[.string ⟨x.toArray⟩, .string ⟨y.toArray⟩] w fun e w' => e = .returned (.tuple #[.string ⟨(fittedR (numPlus na a sa nb b sb).1 (numPlus na a sa nb b sb).2 (max sa sb)).1.toArray⟩, .int .i64 (fittedR (numPlus na a sa nb b sb).1 (numPlus na a sa nb b sb).2 (max sa sb)).2]) ∧ Below w.heap.size w w' := by
  have TW' := Lib.hid TW
  clear TW
  have PL := Lib.hid (fun w => plus_ref na a sa nb b sb w hna hnb ha hb hsa hsb)
  have SH := Lib.hid (fun w => short_any (numPlus na a sa nb b sb).1 (numPlus na a sa nb b sb).2 (max sa sb) w (Nat.le_trans (numPlus_dl ha hb hsa hsb) (by decide)) (by omega))
  generalize (numPlus na a sa nb b sb).1 = N at *
  generalize (numPlus na a sa nb b sb).2 = V at *
  generalize max sa sb = S at *
  go_enter Try.func27, Try.ntmps27
  go_wp2_with (first
    | (go_at_call 61; refine (TW'.out _).mono ?_; rintro e w1 ⟨rfl, hb⟩; have K1 := (Blk.nil w).kept hb; have X := ((Blk.nil w1).lay rfl (rcells na a sa) 50).lay (by simp) (rcells nb b sb) 50; have K1 := (K1.more (.cells (rcells na a sa) 50)).more (.cells (rcells nb b sb) 50); clear hb)
    | (go_at_call 62; refine (PL.out _).mono ?_; rintro e w2 ⟨rfl, hb⟩; have K1 := K1.kept hb; clear hb)
    | (go_at_call 66; refine (SH.out _).mono ?_; rintro e w3 ⟨rfl, hb⟩; have K1 := K1.kept hb; clear hb))
  go_ret2
  exact ⟨rfl, K1.below⟩
set_option maxRecDepth 100000 in
set_option maxHeartbeats 8000000 in
theorem rsub_yes (x y : List UInt8) (na : Bool) (a sa : Nat) (nb : Bool) (b sb : Nat) (w : World) (TW : ∀ w, Calls Try.prog 61 #[.string ⟨x.toArray⟩, .string ⟨y.toArray⟩] w fun e w' => e = .returned (.tuple #[.agg (rcells na a sa), .agg (rcells nb b sb), .bool true]) ∧ Below w.heap.size w w')
    (hna : sgn na a = na) (hnb : sgn nb b = nb) (ha : dl a ≤ 31) (hb : dl b ≤ 31) (hsa : sa ≤ 31) (hsb : sb ≤ 31) :
    Calls Try.prog 29 #[.string ⟨x.toArray⟩, .string ⟨y.toArray⟩] w fun e w' => e = .returned (.tuple #[.string ⟨(fittedR (numPlus na a sa (!nb) b sb).1 (numPlus na a sa (!nb) b sb).2 (max sa sb)).1.toArray⟩, .int .i64 (fittedR (numPlus na a sa (!nb) b sb).1 (numPlus na a sa (!nb) b sb).2 (max sa sb)).2]) ∧ Below w.heap.size w w' := by
  have TW' := Lib.hid TW
  clear TW
  have NE := Lib.hid (fun w => negated_any nb b sb w (by omega))
  have PL0 := fun w => plus_ref na a sa (sgn (!nb) b) b sb w hna (sgn_sgn _ _) ha hb hsa hsb
  rw [numPlus_sgn] at PL0
  have PL := Lib.hid PL0
  have SH := Lib.hid (fun w => short_any (numPlus na a sa (!nb) b sb).1 (numPlus na a sa (!nb) b sb).2 (max sa sb) w (Nat.le_trans (numPlus_dl ha hb hsa hsb) (by decide)) (by omega))
  clear PL0
  generalize (numPlus na a sa (!nb) b sb).1 = N at *
  generalize (numPlus na a sa (!nb) b sb).2 = V at *
  generalize max sa sb = S at *
  go_enter Try.func29, Try.ntmps29
  go_wp2_with (go_at_call 61; refine (TW'.out _).mono ?_; rintro e w1 ⟨rfl, hb⟩; have K1 := (Blk.nil w).kept hb; have X := ((Blk.nil w1).lay rfl (rcells na a sa) 50).lay (by simp) (rcells nb b sb) 50; have K1 := (K1.more (.cells (rcells na a sa) 50)).more (.cells (rcells nb b sb) 50); clear hb)
  refine wp_region_held_drew (S := fun W => Blk w1 W [(rcells na a sa), (rcells nb b sb)]) (by kernel_rfl) X.drew (fun hHeld => ?_)
  have X : Blk w1 _ [(rcells na a sa), (rcells nb b sb)] := hHeld
  have K1 := K1.drew
  clear hHeld
  refine wpAnyH_take (i := 0) (v := .agg (rcells na a sa)) rfl (by kernel_rfl) (by kernel_rfl) (by kernel_rfl) (fun _ _ _ h => h) (Or.inl ⟨by rfl, fun W T => ?_⟩) (by assumption) ?_
  · have q0 : rowOf _ (w1.heap.size) = _ := T.row 0 _ rfl; have q1 : rowOf _ (w1.heap.size + 1) = _ := T.row 1 _ rfl; have c00 : World.cell? _ ⟨w1.heap.size, 0, none⟩ = some (.bool na) := T.cell 0 rfl 0; have c01 : World.cell? _ ⟨w1.heap.size, 1, none⟩ = some (.string ⟨(ds a).toArray⟩) := T.cell 0 rfl 1; have c02 : World.cell? _ ⟨w1.heap.size, 2, none⟩ = some (.int .i64 sa) := T.cell 0 rfl 2; have c10 : World.cell? _ ⟨w1.heap.size + 1, 0, none⟩ = some (.bool nb) := T.cell 1 rfl 0; have c11 : World.cell? _ ⟨w1.heap.size + 1, 1, none⟩ = some (.string ⟨(ds b).toArray⟩) := T.cell 1 rfl 1; have c12 : World.cell? _ ⟨w1.heap.size + 1, 2, none⟩ = some (.int .i64 sb) := T.cell 1 rfl 2; go_simp
  try simp only [Act.put, List.setIfInBounds_toArray, List.set_cons_zero, List.set_cons_succ]
  refine wpAnyH_take (i := 1) (v := .agg (rcells nb b sb)) rfl (by kernel_rfl) (by kernel_rfl) (by kernel_rfl) (fun _ _ _ h => h) (Or.inl ⟨by rfl, fun W T => ?_⟩) (by assumption) ?_
  · have q0 : rowOf _ (w1.heap.size) = _ := T.row 0 _ rfl; have q1 : rowOf _ (w1.heap.size + 1) = _ := T.row 1 _ rfl; have c00 : World.cell? _ ⟨w1.heap.size, 0, none⟩ = some (.bool na) := T.cell 0 rfl 0; have c01 : World.cell? _ ⟨w1.heap.size, 1, none⟩ = some (.string ⟨(ds a).toArray⟩) := T.cell 0 rfl 1; have c02 : World.cell? _ ⟨w1.heap.size, 2, none⟩ = some (.int .i64 sa) := T.cell 0 rfl 2; have c10 : World.cell? _ ⟨w1.heap.size + 1, 0, none⟩ = some (.bool nb) := T.cell 1 rfl 0; have c11 : World.cell? _ ⟨w1.heap.size + 1, 1, none⟩ = some (.string ⟨(ds b).toArray⟩) := T.cell 1 rfl 1; have c12 : World.cell? _ ⟨w1.heap.size + 1, 2, none⟩ = some (.int .i64 sb) := T.cell 1 rfl 2; go_simp
  try simp only [Act.put, List.setIfInBounds_toArray, List.set_cons_zero, List.set_cons_succ]
  refine wpAnyH_ready (rs := [2]) (by kernel_rfl) (by simp) ?_
  refine AllReadyH.cons rfl (fun K hK => ?_) (AllReadyH.nil)
  go_simp
  go_at_call 63
  refine (NE.out _).mono ?_
  rintro e wc ⟨rfl, hb⟩
  have X := X.kept hb
  have K1 := K1.kept hb
  clear hb
  go_wp2_with fail
  refine hK.out _ _ X (fun _ => ?_)
  clear hK K
  try simp only [Act.put, List.setIfInBounds_toArray, List.set_cons_zero, List.set_cons_succ]
  refine wpAnyH_ready (rs := [3]) (by kernel_rfl) (by simp) ?_
  refine AllReadyH.cons rfl (fun K hK => ?_) (AllReadyH.nil)
  go_simp
  go_at_call 62
  refine (PL.out _).mono ?_
  rintro e wc ⟨rfl, hb⟩
  have X := X.kept hb
  have K1 := K1.kept hb
  clear hb
  go_wp2_with fail
  refine hK.out _ _ X (fun _ => ?_)
  clear hK K
  try simp only [Act.put, List.setIfInBounds_toArray, List.set_cons_zero, List.set_cons_succ]
  refine wpAnyH_ready (rs := [4]) (by kernel_rfl) (by simp) ?_
  refine AllReadyH.cons rfl (fun K hK => ?_) (AllReadyH.nil)
  go_simp
  go_at_call 66
  refine (SH.out _).mono ?_
  rintro e wc ⟨rfl, hb⟩
  have X := X.kept hb
  have K1 := K1.kept hb
  clear hb
  go_wp2_with fail
  refine hK.out _ _ X (fun _ => ?_)
  clear hK K
  try simp only [Act.put, List.setIfInBounds_toArray, List.set_cons_zero, List.set_cons_succ]
  refine wpAnyH_take (i := 5) (v := .string ⟨(fittedR N V S).1.toArray⟩) rfl (by kernel_rfl) (by kernel_rfl) (by kernel_rfl) (fun _ _ _ h => h) (Or.inl ⟨by rfl, fun W T => ?_⟩) (by assumption) ?_
  · go_simp
  try simp only [Act.put, List.setIfInBounds_toArray, List.set_cons_zero, List.set_cons_succ]
  refine wpAnyH_take (i := 6) (v := .int .i64 (fittedR N V S).2) rfl (by kernel_rfl) (by kernel_rfl) (by kernel_rfl) (fun _ _ _ h => h) (Or.inl ⟨by rfl, fun W T => ?_⟩) (by assumption) ?_
  · go_simp
  try simp only [Act.put, List.setIfInBounds_toArray, List.set_cons_zero, List.set_cons_succ]
  refine wpAnyH_ready (rs := [7]) (by kernel_rfl) (by simp) ?_
  refine AllReadyH.cons rfl (fun K hK => ?_) (AllReadyH.nil)
  go_simp
  refine hK.out _ _ X (fun _ => ?_)
  clear hK K
  try simp only [Act.put, List.setIfInBounds_toArray, List.set_cons_zero, List.set_cons_succ]
  refine wpAnyH_ready (rs := [8]) (by kernel_rfl) (by simp) ?_
  refine AllReadyH.cons rfl (fun K hK => ?_) (AllReadyH.nil)
  go_simp
  refine hK.out _ _ X (fun _ => ?_)
  clear hK K
  try simp only [Act.put, List.setIfInBounds_toArray, List.set_cons_zero, List.set_cons_succ]
  refine wpAnyH_done (by kernel_rfl) ?_ _
  go_wp2
  go_ret2
  exact ⟨rfl, K1.below⟩
set_option maxRecDepth 100000 in
set_option maxHeartbeats 8000000 in
theorem rmul_yes (x y : List UInt8) (na : Bool) (a sa : Nat) (nb : Bool) (b sb : Nat) (w : World) (TW : ∀ w, Calls Try.prog 61 #[.string ⟨x.toArray⟩, .string ⟨y.toArray⟩] w fun e w' => e = .returned (.tuple #[.agg (rcells na a sa), .agg (rcells nb b sb), .bool true]) ∧ Below w.heap.size w w')
    (hna : sgn na a = na) (hnb : sgn nb b = nb) (ha : dl a ≤ 31) (hb : dl b ≤ 31) (hsa : sa ≤ 31) (hsb : sb ≤ 31) :
    Calls Try.prog 31 #[.string ⟨x.toArray⟩, .string ⟨y.toArray⟩] w fun e w' => e = .returned (.tuple #[.string ⟨(fittedR (!(na == nb)) (a * b) (sa + sb)).1.toArray⟩, .int .i64 (fittedR (!(na == nb)) (a * b) (sa + sb)).2]) ∧ Below w.heap.size w w' := by
  have TW' := Lib.hid TW
  clear TW
  have PR := Lib.hid (fun w => product_any a b w (by omega) (by omega))
  have hd : dl (a * b) ≤ 62 := Nat.le_trans dl_mul (by omega)
  have MA0 := fun w => made_ds (!(na == nb)) (a * b) (sa + sb) w (by omega)
  rw [Int.natCast_add] at MA0
  have MA := Lib.hid MA0
  have SH := Lib.hid (fun w => short_any (!(na == nb)) (a * b) (sa + sb) w (by omega) (by omega))
  have ws : IntKind.i64.wrap ((sa : Int) + (sb : Int)) = (sa : Int) + (sb : Int) := IntWalk.i64_in _ (by omega)
  clear MA0 hd
  go_enter Try.func31, Try.ntmps31
  go_wp2_with (go_at_call 61; refine (TW'.out _).mono ?_; rintro e w1 ⟨rfl, hb⟩; have K1 := (Blk.nil w).kept hb; have X := ((Blk.nil w1).lay rfl (rcells na a sa) 50).lay (by simp) (rcells nb b sb) 50; have K1 := (K1.more (.cells (rcells na a sa) 50)).more (.cells (rcells nb b sb) 50); clear hb)
  refine wp_region_held_drew (S := fun W => Blk w1 W [(rcells na a sa), (rcells nb b sb)]) (by kernel_rfl) X.drew (fun hHeld => ?_)
  have X : Blk w1 _ [(rcells na a sa), (rcells nb b sb)] := hHeld
  have K1 := K1.drew
  clear hHeld
  refine wpAnyH_take (i := 0) (v := Value.pointer (some ⟨w1.heap.size, 0, none⟩)) rfl (by kernel_rfl) (by kernel_rfl) (by kernel_rfl) (fun _ _ _ h => h) (Or.inl ⟨by rfl, fun W T => ?_⟩) (by assumption) ?_
  · go_simp
  try simp only [Act.put, List.setIfInBounds_toArray, List.set_cons_zero, List.set_cons_succ]
  refine wpAnyH_take (i := 1) (v := .bool na) rfl (by kernel_rfl) (by kernel_rfl) (by kernel_rfl) (fun _ _ _ h => h) (Or.inl ⟨by rfl, fun W T => ?_⟩) (by assumption) ?_
  · have q0 : rowOf _ (w1.heap.size) = _ := T.row 0 _ rfl; have q1 : rowOf _ (w1.heap.size + 1) = _ := T.row 1 _ rfl; have c00 : World.cell? _ ⟨w1.heap.size, 0, none⟩ = some (.bool na) := T.cell 0 rfl 0; have c01 : World.cell? _ ⟨w1.heap.size, 1, none⟩ = some (.string ⟨(ds a).toArray⟩) := T.cell 0 rfl 1; have c02 : World.cell? _ ⟨w1.heap.size, 2, none⟩ = some (.int .i64 sa) := T.cell 0 rfl 2; have c10 : World.cell? _ ⟨w1.heap.size + 1, 0, none⟩ = some (.bool nb) := T.cell 1 rfl 0; have c11 : World.cell? _ ⟨w1.heap.size + 1, 1, none⟩ = some (.string ⟨(ds b).toArray⟩) := T.cell 1 rfl 1; have c12 : World.cell? _ ⟨w1.heap.size + 1, 2, none⟩ = some (.int .i64 sb) := T.cell 1 rfl 2; go_simp
  try simp only [Act.put, List.setIfInBounds_toArray, List.set_cons_zero, List.set_cons_succ]
  refine wpAnyH_take (i := 2) (v := Value.pointer (some ⟨w1.heap.size + 1, 0, none⟩)) rfl (by kernel_rfl) (by kernel_rfl) (by kernel_rfl) (fun _ _ _ h => h) (Or.inl ⟨by rfl, fun W T => ?_⟩) (by assumption) ?_
  · go_simp
  try simp only [Act.put, List.setIfInBounds_toArray, List.set_cons_zero, List.set_cons_succ]
  refine wpAnyH_take (i := 3) (v := .bool nb) rfl (by kernel_rfl) (by kernel_rfl) (by kernel_rfl) (fun _ _ _ h => h) (Or.inl ⟨by rfl, fun W T => ?_⟩) (by assumption) ?_
  · have q0 : rowOf _ (w1.heap.size) = _ := T.row 0 _ rfl; have q1 : rowOf _ (w1.heap.size + 1) = _ := T.row 1 _ rfl; have c00 : World.cell? _ ⟨w1.heap.size, 0, none⟩ = some (.bool na) := T.cell 0 rfl 0; have c01 : World.cell? _ ⟨w1.heap.size, 1, none⟩ = some (.string ⟨(ds a).toArray⟩) := T.cell 0 rfl 1; have c02 : World.cell? _ ⟨w1.heap.size, 2, none⟩ = some (.int .i64 sa) := T.cell 0 rfl 2; have c10 : World.cell? _ ⟨w1.heap.size + 1, 0, none⟩ = some (.bool nb) := T.cell 1 rfl 0; have c11 : World.cell? _ ⟨w1.heap.size + 1, 1, none⟩ = some (.string ⟨(ds b).toArray⟩) := T.cell 1 rfl 1; have c12 : World.cell? _ ⟨w1.heap.size + 1, 2, none⟩ = some (.int .i64 sb) := T.cell 1 rfl 2; go_simp
  try simp only [Act.put, List.setIfInBounds_toArray, List.set_cons_zero, List.set_cons_succ]
  refine wpAnyH_take (i := 4) (v := .bool (!(na == nb))) rfl (by kernel_rfl) (by kernel_rfl) (by kernel_rfl) (fun _ _ _ h => h) (Or.inl ⟨by rfl, fun W T => ?_⟩) (by assumption) ?_
  · go_simp
  try simp only [Act.put, List.setIfInBounds_toArray, List.set_cons_zero, List.set_cons_succ]
  refine wpAnyH_take (i := 5) (v := Value.pointer (some ⟨w1.heap.size, 1, none⟩)) rfl (by kernel_rfl) (by kernel_rfl) (by kernel_rfl) (fun _ _ _ h => h) (Or.inl ⟨by rfl, fun W T => ?_⟩) (by assumption) ?_
  · go_simp
  try simp only [Act.put, List.setIfInBounds_toArray, List.set_cons_zero, List.set_cons_succ]
  refine wpAnyH_take (i := 6) (v := .string ⟨(ds a).toArray⟩) rfl (by kernel_rfl) (by kernel_rfl) (by kernel_rfl) (fun _ _ _ h => h) (Or.inl ⟨by rfl, fun W T => ?_⟩) (by assumption) ?_
  · have q0 : rowOf _ (w1.heap.size) = _ := T.row 0 _ rfl; have q1 : rowOf _ (w1.heap.size + 1) = _ := T.row 1 _ rfl; have c00 : World.cell? _ ⟨w1.heap.size, 0, none⟩ = some (.bool na) := T.cell 0 rfl 0; have c01 : World.cell? _ ⟨w1.heap.size, 1, none⟩ = some (.string ⟨(ds a).toArray⟩) := T.cell 0 rfl 1; have c02 : World.cell? _ ⟨w1.heap.size, 2, none⟩ = some (.int .i64 sa) := T.cell 0 rfl 2; have c10 : World.cell? _ ⟨w1.heap.size + 1, 0, none⟩ = some (.bool nb) := T.cell 1 rfl 0; have c11 : World.cell? _ ⟨w1.heap.size + 1, 1, none⟩ = some (.string ⟨(ds b).toArray⟩) := T.cell 1 rfl 1; have c12 : World.cell? _ ⟨w1.heap.size + 1, 2, none⟩ = some (.int .i64 sb) := T.cell 1 rfl 2; go_simp
  try simp only [Act.put, List.setIfInBounds_toArray, List.set_cons_zero, List.set_cons_succ]
  refine wpAnyH_take (i := 7) (v := Value.pointer (some ⟨w1.heap.size + 1, 1, none⟩)) rfl (by kernel_rfl) (by kernel_rfl) (by kernel_rfl) (fun _ _ _ h => h) (Or.inl ⟨by rfl, fun W T => ?_⟩) (by assumption) ?_
  · go_simp
  try simp only [Act.put, List.setIfInBounds_toArray, List.set_cons_zero, List.set_cons_succ]
  refine wpAnyH_take (i := 8) (v := .string ⟨(ds b).toArray⟩) rfl (by kernel_rfl) (by kernel_rfl) (by kernel_rfl) (fun _ _ _ h => h) (Or.inl ⟨by rfl, fun W T => ?_⟩) (by assumption) ?_
  · have q0 : rowOf _ (w1.heap.size) = _ := T.row 0 _ rfl; have q1 : rowOf _ (w1.heap.size + 1) = _ := T.row 1 _ rfl; have c00 : World.cell? _ ⟨w1.heap.size, 0, none⟩ = some (.bool na) := T.cell 0 rfl 0; have c01 : World.cell? _ ⟨w1.heap.size, 1, none⟩ = some (.string ⟨(ds a).toArray⟩) := T.cell 0 rfl 1; have c02 : World.cell? _ ⟨w1.heap.size, 2, none⟩ = some (.int .i64 sa) := T.cell 0 rfl 2; have c10 : World.cell? _ ⟨w1.heap.size + 1, 0, none⟩ = some (.bool nb) := T.cell 1 rfl 0; have c11 : World.cell? _ ⟨w1.heap.size + 1, 1, none⟩ = some (.string ⟨(ds b).toArray⟩) := T.cell 1 rfl 1; have c12 : World.cell? _ ⟨w1.heap.size + 1, 2, none⟩ = some (.int .i64 sb) := T.cell 1 rfl 2; go_simp
  try simp only [Act.put, List.setIfInBounds_toArray, List.set_cons_zero, List.set_cons_succ]
  refine wpAnyH_take (i := 10) (v := Value.pointer (some ⟨w1.heap.size, 2, none⟩)) rfl (by kernel_rfl) (by kernel_rfl) (by kernel_rfl) (fun _ _ _ h => h) (Or.inl ⟨by rfl, fun W T => ?_⟩) (by assumption) ?_
  · go_simp
  try simp only [Act.put, List.setIfInBounds_toArray, List.set_cons_zero, List.set_cons_succ]
  refine wpAnyH_take (i := 11) (v := .int .i64 sa) rfl (by kernel_rfl) (by kernel_rfl) (by kernel_rfl) (fun _ _ _ h => h) (Or.inl ⟨by rfl, fun W T => ?_⟩) (by assumption) ?_
  · have q0 : rowOf _ (w1.heap.size) = _ := T.row 0 _ rfl; have q1 : rowOf _ (w1.heap.size + 1) = _ := T.row 1 _ rfl; have c00 : World.cell? _ ⟨w1.heap.size, 0, none⟩ = some (.bool na) := T.cell 0 rfl 0; have c01 : World.cell? _ ⟨w1.heap.size, 1, none⟩ = some (.string ⟨(ds a).toArray⟩) := T.cell 0 rfl 1; have c02 : World.cell? _ ⟨w1.heap.size, 2, none⟩ = some (.int .i64 sa) := T.cell 0 rfl 2; have c10 : World.cell? _ ⟨w1.heap.size + 1, 0, none⟩ = some (.bool nb) := T.cell 1 rfl 0; have c11 : World.cell? _ ⟨w1.heap.size + 1, 1, none⟩ = some (.string ⟨(ds b).toArray⟩) := T.cell 1 rfl 1; have c12 : World.cell? _ ⟨w1.heap.size + 1, 2, none⟩ = some (.int .i64 sb) := T.cell 1 rfl 2; go_simp
  try simp only [Act.put, List.setIfInBounds_toArray, List.set_cons_zero, List.set_cons_succ]
  refine wpAnyH_take (i := 12) (v := Value.pointer (some ⟨w1.heap.size + 1, 2, none⟩)) rfl (by kernel_rfl) (by kernel_rfl) (by kernel_rfl) (fun _ _ _ h => h) (Or.inl ⟨by rfl, fun W T => ?_⟩) (by assumption) ?_
  · go_simp
  try simp only [Act.put, List.setIfInBounds_toArray, List.set_cons_zero, List.set_cons_succ]
  refine wpAnyH_take (i := 13) (v := .int .i64 sb) rfl (by kernel_rfl) (by kernel_rfl) (by kernel_rfl) (fun _ _ _ h => h) (Or.inl ⟨by rfl, fun W T => ?_⟩) (by assumption) ?_
  · have q0 : rowOf _ (w1.heap.size) = _ := T.row 0 _ rfl; have q1 : rowOf _ (w1.heap.size + 1) = _ := T.row 1 _ rfl; have c00 : World.cell? _ ⟨w1.heap.size, 0, none⟩ = some (.bool na) := T.cell 0 rfl 0; have c01 : World.cell? _ ⟨w1.heap.size, 1, none⟩ = some (.string ⟨(ds a).toArray⟩) := T.cell 0 rfl 1; have c02 : World.cell? _ ⟨w1.heap.size, 2, none⟩ = some (.int .i64 sa) := T.cell 0 rfl 2; have c10 : World.cell? _ ⟨w1.heap.size + 1, 0, none⟩ = some (.bool nb) := T.cell 1 rfl 0; have c11 : World.cell? _ ⟨w1.heap.size + 1, 1, none⟩ = some (.string ⟨(ds b).toArray⟩) := T.cell 1 rfl 1; have c12 : World.cell? _ ⟨w1.heap.size + 1, 2, none⟩ = some (.int .i64 sb) := T.cell 1 rfl 2; go_simp
  try simp only [Act.put, List.setIfInBounds_toArray, List.set_cons_zero, List.set_cons_succ]
  refine wpAnyH_take (i := 14) (v := .int .i64 ((sa : Int) + (sb : Int))) rfl (by kernel_rfl) (by kernel_rfl) (by kernel_rfl) (fun _ _ _ h => h) (Or.inl ⟨by rfl, fun W T => ?_⟩) (by assumption) ?_
  · go_simp
  try simp only [Act.put, List.setIfInBounds_toArray, List.set_cons_zero, List.set_cons_succ]
  refine wpAnyH_ready (rs := [9]) (by kernel_rfl) (by simp) ?_
  refine AllReadyH.cons rfl (fun K hK => ?_) (AllReadyH.nil)
  go_simp
  go_at_call 68
  refine (PR.out _).mono ?_
  rintro e wc ⟨rfl, hb⟩
  have X := X.kept hb
  have K1 := K1.kept hb
  clear hb
  go_wp2_with fail
  refine hK.out _ _ X (fun _ => ?_)
  clear hK K
  try simp only [Act.put, List.setIfInBounds_toArray, List.set_cons_zero, List.set_cons_succ]
  refine wpAnyH_ready (rs := [15]) (by kernel_rfl) (by simp) ?_
  refine AllReadyH.cons rfl (fun K hK => ?_) (AllReadyH.nil)
  go_simp
  go_at_call 47
  refine (MA.out _).mono ?_
  rintro e wc ⟨rfl, hb⟩
  have X := X.kept hb
  have K1 := K1.kept hb
  clear hb
  go_wp2_with fail
  refine hK.out _ _ X (fun _ => ?_)
  clear hK K
  try simp only [Act.put, List.setIfInBounds_toArray, List.set_cons_zero, List.set_cons_succ]
  refine wpAnyH_ready (rs := [16]) (by kernel_rfl) (by simp) ?_
  refine AllReadyH.cons rfl (fun K hK => ?_) (AllReadyH.nil)
  go_simp
  go_at_call 66
  refine (SH.out _).mono ?_
  rintro e wc ⟨rfl, hb⟩
  have X := X.kept hb
  have K1 := K1.kept hb
  clear hb
  go_wp2_with fail
  refine hK.out _ _ X (fun _ => ?_)
  clear hK K
  try simp only [Act.put, List.setIfInBounds_toArray, List.set_cons_zero, List.set_cons_succ]
  refine wpAnyH_take (i := 17) (v := .string ⟨(fittedR (!(na == nb)) (a * b) (sa + sb)).1.toArray⟩) rfl (by kernel_rfl) (by kernel_rfl) (by kernel_rfl) (fun _ _ _ h => h) (Or.inl ⟨by rfl, fun W T => ?_⟩) (by assumption) ?_
  · go_simp
  try simp only [Act.put, List.setIfInBounds_toArray, List.set_cons_zero, List.set_cons_succ]
  refine wpAnyH_take (i := 18) (v := .int .i64 (fittedR (!(na == nb)) (a * b) (sa + sb)).2) rfl (by kernel_rfl) (by kernel_rfl) (by kernel_rfl) (fun _ _ _ h => h) (Or.inl ⟨by rfl, fun W T => ?_⟩) (by assumption) ?_
  · go_simp
  try simp only [Act.put, List.setIfInBounds_toArray, List.set_cons_zero, List.set_cons_succ]
  refine wpAnyH_ready (rs := [19]) (by kernel_rfl) (by simp) ?_
  refine AllReadyH.cons rfl (fun K hK => ?_) (AllReadyH.nil)
  go_simp
  refine hK.out _ _ X (fun _ => ?_)
  clear hK K
  try simp only [Act.put, List.setIfInBounds_toArray, List.set_cons_zero, List.set_cons_succ]
  refine wpAnyH_ready (rs := [20]) (by kernel_rfl) (by simp) ?_
  refine AllReadyH.cons rfl (fun K hK => ?_) (AllReadyH.nil)
  go_simp
  refine hK.out _ _ X (fun _ => ?_)
  clear hK K
  try simp only [Act.put, List.setIfInBounds_toArray, List.set_cons_zero, List.set_cons_succ]
  refine wpAnyH_done (by kernel_rfl) ?_ _
  go_wp2
  go_ret2
  exact ⟨rfl, K1.below⟩
set_option maxRecDepth 100000 in
set_option maxHeartbeats 8000000 in
theorem rcmp_yes (x y : List UInt8) (na : Bool) (a sa : Nat) (nb : Bool) (b sb : Nat) (w : World) (TW : ∀ w, Calls Try.prog 61 #[.string ⟨x.toArray⟩, .string ⟨y.toArray⟩] w fun e w' => e = .returned (.tuple #[.agg (rcells na a sa), .agg (rcells nb b sb), .bool true]) ∧ Below w.heap.size w w')
    (hna : sgn na a = na) (hnb : sgn nb b = nb) (ha : dl a ≤ 31) (hb : dl b ≤ 31) (hsa : sa ≤ 31) (hsb : sb ≤ 31) :
    Calls Try.prog 25 #[.string ⟨x.toArray⟩, .string ⟨y.toArray⟩] w fun e w' => e = .returned (.tuple #[.int .i64 (cmpN (numPlus na a sa (!nb) b sb).1 (numPlus na a sa (!nb) b sb).2), .int .i64 0]) ∧ Below w.heap.size w w' := by
  have TW' := Lib.hid TW
  clear TW
  have NE := Lib.hid (fun w => negated_any nb b sb w (by omega))
  have PL0 := fun w => plus_ref na a sa (sgn (!nb) b) b sb w hna (sgn_sgn _ _) ha hb hsa hsb
  rw [numPlus_sgn] at PL0
  have PL := Lib.hid PL0
  clear PL0
  generalize (numPlus na a sa (!nb) b sb).1 = N at *
  generalize (numPlus na a sa (!nb) b sb).2 = V at *
  generalize max sa sb = S at *
  go_enter Try.func25, Try.ntmps25
  go_wp2_with (go_at_call 61; refine (TW'.out _).mono ?_; rintro e w1 ⟨rfl, hb⟩; have K1 := (Blk.nil w).kept hb; have X := ((Blk.nil w1).lay rfl (rcells na a sa) 50).lay (by simp) (rcells nb b sb) 50; have K1 := (K1.more (.cells (rcells na a sa) 50)).more (.cells (rcells nb b sb) 50); clear hb)
  go_cut [9] (fun s9 W => ∃ p9 : Nat, s9 = .pointer (some ⟨p9, 0, none⟩) ∧ At w1.heap.size W p9 (rcells (sgn N V) V S) ∧ Blk w W [])
  case first =>
    refine wp_region_held_drew (S := fun W => Blk w1 W [(rcells na a sa), (rcells nb b sb)]) (by kernel_rfl) X.drew (fun hHeld => ?_)
    have X : Blk w1 _ [(rcells na a sa), (rcells nb b sb)] := hHeld
    have K1 := K1.drew
    clear hHeld
    clear TW'
    revert X K1
    generalize ((w1.alloc (.cells (rcells na a sa) 50)).alloc (.cells (rcells nb b sb) 50)).drew = V0
    intro X K1
    refine wpAnyH_take (i := 0) (v := .agg (rcells na a sa)) rfl (by kernel_rfl) (by kernel_rfl) (by kernel_rfl) (fun _ _ _ h => h) (Or.inl ⟨by rfl, fun W T => ?_⟩) (by assumption) ?_
    · have q0 : rowOf _ (w1.heap.size) = _ := T.row 0 _ rfl; have q1 : rowOf _ (w1.heap.size + 1) = _ := T.row 1 _ rfl; have c00 : World.cell? _ ⟨w1.heap.size, 0, none⟩ = some (.bool na) := T.cell 0 rfl 0; have c01 : World.cell? _ ⟨w1.heap.size, 1, none⟩ = some (.string ⟨(ds a).toArray⟩) := T.cell 0 rfl 1; have c02 : World.cell? _ ⟨w1.heap.size, 2, none⟩ = some (.int .i64 sa) := T.cell 0 rfl 2; have c10 : World.cell? _ ⟨w1.heap.size + 1, 0, none⟩ = some (.bool nb) := T.cell 1 rfl 0; have c11 : World.cell? _ ⟨w1.heap.size + 1, 1, none⟩ = some (.string ⟨(ds b).toArray⟩) := T.cell 1 rfl 1; have c12 : World.cell? _ ⟨w1.heap.size + 1, 2, none⟩ = some (.int .i64 sb) := T.cell 1 rfl 2; go_simp
    try simp only [Act.put, List.setIfInBounds_toArray, List.set_cons_zero, List.set_cons_succ]
    refine wpAnyH_take (i := 1) (v := .agg (rcells nb b sb)) rfl (by kernel_rfl) (by kernel_rfl) (by kernel_rfl) (fun _ _ _ h => h) (Or.inl ⟨by rfl, fun W T => ?_⟩) (by assumption) ?_
    · have q0 : rowOf _ (w1.heap.size) = _ := T.row 0 _ rfl; have q1 : rowOf _ (w1.heap.size + 1) = _ := T.row 1 _ rfl; have c00 : World.cell? _ ⟨w1.heap.size, 0, none⟩ = some (.bool na) := T.cell 0 rfl 0; have c01 : World.cell? _ ⟨w1.heap.size, 1, none⟩ = some (.string ⟨(ds a).toArray⟩) := T.cell 0 rfl 1; have c02 : World.cell? _ ⟨w1.heap.size, 2, none⟩ = some (.int .i64 sa) := T.cell 0 rfl 2; have c10 : World.cell? _ ⟨w1.heap.size + 1, 0, none⟩ = some (.bool nb) := T.cell 1 rfl 0; have c11 : World.cell? _ ⟨w1.heap.size + 1, 1, none⟩ = some (.string ⟨(ds b).toArray⟩) := T.cell 1 rfl 1; have c12 : World.cell? _ ⟨w1.heap.size + 1, 2, none⟩ = some (.int .i64 sb) := T.cell 1 rfl 2; go_simp
    try simp only [Act.put, List.setIfInBounds_toArray, List.set_cons_zero, List.set_cons_succ]
    refine wpAnyH_ready (rs := [2, 4]) (by kernel_rfl) (by simp) ?_
    refine AllReadyH.cons rfl (fun K hK => ?_) (AllReadyH.cons rfl (fun K hK => ?_) (AllReadyH.nil))
    · skip
      go_simp
      go_at_call 63
      refine (NE.out _).mono ?_
      rintro e W0 ⟨rfl, hb⟩
      have X := X.kept hb
      have K1 := K1.kept hb
      clear hb
      go_wp2_with fail
      refine hK.out _ _ X (fun _ => ?_)
      clear hK K
      try simp only [Act.put, List.setIfInBounds_toArray, List.set_cons_zero, List.set_cons_succ]
      refine wpAnyH_ready (rs := [3, 4]) (by kernel_rfl) (by simp) ?_
      refine AllReadyH.cons rfl (fun K hK => ?_) (AllReadyH.cons rfl (fun K hK => ?_) (AllReadyH.nil))
      · skip
        go_simp
        go_at_call 62
        refine (PL.out _).mono ?_
        rintro e W1 ⟨rfl, hb⟩
        have X := X.kept hb
        have K1 := K1.kept hb
        clear hb
        go_wp2_with fail
        refine hK.out _ _ X (fun _ => ?_)
        clear hK K
        try simp only [Act.put, List.setIfInBounds_toArray, List.set_cons_zero, List.set_cons_succ]
        refine wpAnyH_ready (rs := [4]) (by kernel_rfl) (by simp) ?_
        refine AllReadyH.cons rfl (fun K hK => ?_) (AllReadyH.nil)
        go_simp
        have DP : w1.heap.size + 2 ≤ W1.heap.size := by have := X.le; simpa using this
        have DK : w.heap.size ≤ W1.heap.size := by have := K1.le; simpa using this
        have A9 := At.lay (lo := w1.heap.size) W1 #[.bool false, .string ⟨#[]⟩, .int .i64 0] 50 (by omega)
        have X := X.more (.cells #[.bool false, .string ⟨#[]⟩, .int .i64 0] 50)
        have K1 := K1.more (.cells #[.bool false, .string ⟨#[]⟩, .int .i64 0] 50)
        refine hK.out _ _ X (fun _ => ?_)
        clear hK K
        revert X K1 A9
        generalize W1.alloc (.cells #[.bool false, .string ⟨#[]⟩, .int .i64 0] 50) = W2
        intro A9 X K1
        try simp only [Act.put, List.setIfInBounds_toArray, List.set_cons_zero, List.set_cons_succ]
        refine wpAnyH_ready (rs := [5]) (by kernel_rfl) (by simp) ?_
        refine AllReadyH.cons rfl (fun K hK => ?_) (AllReadyH.nil)
        have R9 := A9.row
        have F9 := A9.free
        go_simp
        have X := X.putOther W1.heap.size 0 (rcells (sgn N V) V S) (by simpa using DP)
        have K1 := K1.putOther W1.heap.size 0 (rcells (sgn N V) V S) (by simpa using DK)
        have A9 := A9.put (rcells (sgn N V) V S)
        rw [splice_rcells] at A9
        refine hK.out _ _ X (fun _ => ?_)
        clear hK K
        refine wpAnyH_done (by kernel_rfl) ?_ _
        go_wp2_with fail
        go_meet
        exact ⟨_, rfl, A9, K1⟩
      · skip
        go_simp
        have DP : w1.heap.size + 2 ≤ W0.heap.size := by have := X.le; simpa using this
        have DK : w.heap.size ≤ W0.heap.size := by have := K1.le; simpa using this
        have A9 := At.lay (lo := w1.heap.size) W0 #[.bool false, .string ⟨#[]⟩, .int .i64 0] 50 (by omega)
        have X := X.more (.cells #[.bool false, .string ⟨#[]⟩, .int .i64 0] 50)
        have K1 := K1.more (.cells #[.bool false, .string ⟨#[]⟩, .int .i64 0] 50)
        refine hK.out _ _ X (fun _ => ?_)
        clear hK K
        revert X K1 A9
        generalize W0.alloc (.cells #[.bool false, .string ⟨#[]⟩, .int .i64 0] 50) = W3
        intro A9 X K1
        try simp only [Act.put, List.setIfInBounds_toArray, List.set_cons_zero, List.set_cons_succ]
        refine wpAnyH_ready (rs := [3]) (by kernel_rfl) (by simp) ?_
        refine AllReadyH.cons rfl (fun K hK => ?_) (AllReadyH.nil)
        go_simp
        go_at_call 62
        refine (PL.out _).mono ?_
        rintro e W4 ⟨rfl, hb⟩
        have X := X.kept hb
        have K1 := K1.kept hb
        have A9 := A9.kept hb
        clear hb
        go_wp2_with fail
        refine hK.out _ _ X (fun _ => ?_)
        clear hK K
        try simp only [Act.put, List.setIfInBounds_toArray, List.set_cons_zero, List.set_cons_succ]
        refine wpAnyH_ready (rs := [5]) (by kernel_rfl) (by simp) ?_
        refine AllReadyH.cons rfl (fun K hK => ?_) (AllReadyH.nil)
        have R9 := A9.row
        have F9 := A9.free
        go_simp
        have X := X.putOther W0.heap.size 0 (rcells (sgn N V) V S) (by simpa using DP)
        have K1 := K1.putOther W0.heap.size 0 (rcells (sgn N V) V S) (by simpa using DK)
        have A9 := A9.put (rcells (sgn N V) V S)
        rw [splice_rcells] at A9
        refine hK.out _ _ X (fun _ => ?_)
        clear hK K
        refine wpAnyH_done (by kernel_rfl) ?_ _
        go_wp2_with fail
        go_meet
        exact ⟨_, rfl, A9, K1⟩
    · skip
      go_simp
      have DP : w1.heap.size + 2 ≤ V0.heap.size := by have := X.le; simpa using this
      have DK : w.heap.size ≤ V0.heap.size := by have := K1.le; simpa using this
      have A9 := At.lay (lo := w1.heap.size) V0 #[.bool false, .string ⟨#[]⟩, .int .i64 0] 50 (by omega)
      have X := X.more (.cells #[.bool false, .string ⟨#[]⟩, .int .i64 0] 50)
      have K1 := K1.more (.cells #[.bool false, .string ⟨#[]⟩, .int .i64 0] 50)
      refine hK.out _ _ X (fun _ => ?_)
      clear hK K
      revert X K1 A9
      generalize V0.alloc (.cells #[.bool false, .string ⟨#[]⟩, .int .i64 0] 50) = W5
      intro A9 X K1
      try simp only [Act.put, List.setIfInBounds_toArray, List.set_cons_zero, List.set_cons_succ]
      refine wpAnyH_ready (rs := [2]) (by kernel_rfl) (by simp) ?_
      refine AllReadyH.cons rfl (fun K hK => ?_) (AllReadyH.nil)
      go_simp
      go_at_call 63
      refine (NE.out _).mono ?_
      rintro e W6 ⟨rfl, hb⟩
      have X := X.kept hb
      have K1 := K1.kept hb
      have A9 := A9.kept hb
      clear hb
      go_wp2_with fail
      refine hK.out _ _ X (fun _ => ?_)
      clear hK K
      try simp only [Act.put, List.setIfInBounds_toArray, List.set_cons_zero, List.set_cons_succ]
      refine wpAnyH_ready (rs := [3]) (by kernel_rfl) (by simp) ?_
      refine AllReadyH.cons rfl (fun K hK => ?_) (AllReadyH.nil)
      go_simp
      go_at_call 62
      refine (PL.out _).mono ?_
      rintro e W7 ⟨rfl, hb⟩
      have X := X.kept hb
      have K1 := K1.kept hb
      have A9 := A9.kept hb
      clear hb
      go_wp2_with fail
      refine hK.out _ _ X (fun _ => ?_)
      clear hK K
      try simp only [Act.put, List.setIfInBounds_toArray, List.set_cons_zero, List.set_cons_succ]
      refine wpAnyH_ready (rs := [5]) (by kernel_rfl) (by simp) ?_
      refine AllReadyH.cons rfl (fun K hK => ?_) (AllReadyH.nil)
      have R9 := A9.row
      have F9 := A9.free
      go_simp
      have X := X.putOther V0.heap.size 0 (rcells (sgn N V) V S) (by simpa using DP)
      have K1 := K1.putOther V0.heap.size 0 (rcells (sgn N V) V S) (by simpa using DK)
      have A9 := A9.put (rcells (sgn N V) V S)
      rw [splice_rcells] at A9
      refine hK.out _ _ X (fun _ => ?_)
      clear hK K
      refine wpAnyH_done (by kernel_rfl) ?_ _
      go_wp2_with fail
      go_meet
      exact ⟨_, rfl, A9, K1⟩
  case rest =>
    obtain ⟨p9, rfl, A9, K2⟩ := hcut
    have c0 := At.c0 A9
    have c1 := At.c1 A9
    have hbq := ds_beq V
    by_cases hV : V = 0
    · have hs : sgn N V = false := by subst hV; unfold sgn; simp
      have hr : cmpN N V = 0 := by unfold cmpN; rw [if_pos hV]
      have hd : (ds V == [48]) = true := by rw [hbq]; simpa using hV
      have hd0 : (ds 0 == [48]) = true := by rw [ds_beq]; rfl
      rw [hs] at c0
      clear hbq A9 hs
      go_wp2
      go_ret2
      exact ⟨by first | rfl | (rw [hr]; rfl), K2.below⟩
    · have hd : (ds V == [48]) = false := by rw [hbq]; simpa using hV
      cases N with
      | true =>
        have hs : sgn true V = true := by unfold sgn; simp [hV]
        have hr : cmpN true V = -1 := by unfold cmpN; rw [if_neg hV]; rfl
        rw [hs] at c0
        clear hbq A9 hs
        go_wp2
        go_ret2
        exact ⟨by first | rfl | (rw [hr]; rfl), K2.below⟩
      | false =>
        have hs : sgn false V = false := rfl
        have hr : cmpN false V = 1 := by unfold cmpN; rw [if_neg hV]; rfl
        rw [hs] at c0
        clear hbq A9 hs
        go_wp2
        go_ret2
        exact ⟨by first | rfl | (rw [hr]; rfl), K2.below⟩
theorem divQ_eq (a sa b sb t : Nat) : a * 10 ^ (sb + t) / (b * 10 ^ sa) = divQ a sa b sb t := by
  unfold divQ
  rw [scU_up (by omega), scU_up (by omega)]
  rcases Nat.le_total sa sb with h | h
  · rw [Nat.max_eq_right h, Nat.sub_self, Nat.pow_zero, Nat.mul_one]
    have e : a * 10 ^ (sb + t) = a * 10 ^ (sb - sa) * 10 ^ t * 10 ^ sa := by
      rw [Nat.mul_assoc, Nat.mul_assoc, ← Nat.pow_add, ← Nat.pow_add]
      congr 2; omega
    rw [e, Nat.mul_div_mul_right _ _ (Nat.pow_pos (by decide))]
  · rw [Nat.max_eq_left h, Nat.sub_self, Nat.pow_zero, Nat.mul_one]
    have e1 : a * 10 ^ (sb + t) = a * 10 ^ t * 10 ^ sb := by
      rw [Nat.mul_assoc, ← Nat.pow_add, Nat.add_comm t]
    have e2 : b * 10 ^ sa = b * 10 ^ (sa - sb) * 10 ^ sb := by
      rw [Nat.mul_assoc, ← Nat.pow_add]
      congr 2; omega
    rw [e1, e2, Nat.mul_div_mul_right _ _ (Nat.pow_pos (by decide))]
set_option maxRecDepth 100000 in
set_option maxHeartbeats 8000000 in
theorem rdiv_yes (x y : List UInt8) (na : Bool) (a sa : Nat) (nb : Bool) (b sb : Nat) (t : Nat) (w : World) (TW : ∀ w, Calls Try.prog 61 #[.string ⟨x.toArray⟩, .string ⟨y.toArray⟩] w fun e w' => e = .returned (.tuple #[.agg (rcells na a sa), .agg (rcells nb b sb), .bool true]) ∧ Below w.heap.size w w')
    (hna : sgn na a = na) (hnb : sgn nb b = nb) (ha : dl a ≤ 31) (hb : dl b ≤ 31) (hsa : sa ≤ 31) (hsb : sb ≤ 31) (ht : t ≤ 31) (hb0 : b ≠ 0) :
    Calls Try.prog 33 #[.string ⟨x.toArray⟩, .string ⟨y.toArray⟩, .int .i64 t] w fun e w' => e = .returned (.tuple #[.string ⟨(wholeR (!(na == nb)) (divQ a sa b sb t) t).1.toArray⟩, .int .i64 (wholeR (!(na == nb)) (divQ a sa b sb t) t).2]) ∧ Below w.heap.size w w' := by
  have TW' := Lib.hid TW
  clear TW
  have SC0 := fun w => rscaled_any t w
  rw [decide_eq_true (show 0 ≤ (t : Int) ∧ (t : Int) ≤ 31 by omega)] at SC0
  have SC := Lib.hid SC0
  obtain ⟨k, hk⟩ : ∃ k, sb + t = k := ⟨_, rfl⟩
  have hk1 : (sb : Int) + (t : Int) = (k : Int) := by omega
  have wk : IntKind.i64.wrap (k : Int) = (k : Int) := IntWalk.i64_in _ (by omega)
  have Z1 := Lib.hid (fun w => zeros_dds k w (by omega))
  have Z2 := Lib.hid (fun w => zeros_dds sa w (by omega))
  have p1 := ds_pad a k
  have p2 := ds_pad b sa
  have hA : a * 10 ^ k < 10 ^ (dl a + k) := by rw [Nat.pow_add]; exact Nat.mul_lt_mul_of_pos_right (lt_pow_dl a) (Nat.pow_pos (by decide))
  have hB : b * 10 ^ sa < 10 ^ (dl b + sa) := by rw [Nat.pow_add]; exact Nat.mul_lt_mul_of_pos_right (lt_pow_dl b) (Nat.pow_pos (by decide))
  have B1 := Lib.hid (fun w => bare_any (a * 10 ^ k) (dl a + k) w hA (by omega))
  have B2 := Lib.hid (fun w => bare_any (b * 10 ^ sa) (dl b + sa) w hB (by omega))
  have dA : dl (a * 10 ^ k) ≤ 93 := Nat.le_trans (dl_le_of (by have := dl_pos a; omega) hA) (by omega)
  have dB : dl (b * 10 ^ sa) ≤ 62 := Nat.le_trans (dl_le_of (by have := dl_pos b; omega) hB) (by omega)
  have QU0 := fun w => quotient_any (a * 10 ^ k) (b * 10 ^ sa) w (by omega) (by omega) (Nat.mul_pos (Nat.pos_of_ne_zero hb0) (Nat.pow_pos (by decide)))
  have e := divQ_eq a sa b sb t
  rw [hk] at e
  rw [e] at QU0
  have QU := Lib.hid QU0
  have dQ : dl (divQ a sa b sb t) ≤ 93 := by rw [← e]; exact Nat.le_trans (dl_mono (Nat.div_le_self _ _)) dA
  have MA := Lib.hid (fun w => made_ds (!(na == nb)) (divQ a sa b sb t) t w (by omega))
  have WH := Lib.hid (fun w => rwhole_any (!(na == nb)) (divQ a sa b sb t) t w (by omega) (by omega))
  have hbq : (ds b == [48]) = false := by rw [ds_beq]; simpa using hb0
  have za := ds_length a
  have zb := ds_length b
  have zk := dd_length 0 k
  have zs := dd_length 0 sa
  have i1 : dl a + k ≤ 9223372036854775807 := by omega
  have i2 : dl b + sa ≤ 9223372036854775807 := by omega
  generalize hM : a * 10 ^ k % (b * 10 ^ sa) = M at *
  clear SC0 QU0 e dQ hA hB dA dB hM
  go_enter Try.func33, Try.ntmps33
  go_wp2_with (first
    | (go_at_call 61; refine (TW'.out _).mono ?_; rintro e w1 ⟨rfl, hb⟩; have K1 := (Blk.nil w).kept hb; have X := ((Blk.nil w1).lay rfl (rcells na a sa) 50).lay (by simp) (rcells nb b sb) 50; have K1 := (K1.more (.cells (rcells na a sa) 50)).more (.cells (rcells nb b sb) 50); clear hb)
    | (go_at_call 42; refine (SC.out _).mono ?_; rintro e wz ⟨rfl, hwz⟩; obtain rfl := hwz.symm))
  go_cut [11] (fun s11 W => s11 = .string ⟨(ds (divQ a sa b sb t)).toArray⟩ ∧ Blk w1 W [(rcells na a sa), (rcells nb b sb)] ∧ Blk w W [])
  case first =>
    refine wp_region_held_drew (S := fun W => Blk w1 W [(rcells na a sa), (rcells nb b sb)]) (by kernel_rfl) X.drew (fun hHeld => ?_)
    have X : Blk w1 _ [(rcells na a sa), (rcells nb b sb)] := hHeld
    have K1 := K1.drew
    clear hHeld
    refine wpAnyH_take (i := 0) (v := Value.pointer (some ⟨w1.heap.size, 1, none⟩)) rfl (by kernel_rfl) (by kernel_rfl) (by kernel_rfl) (fun _ _ _ h => h) (Or.inl ⟨by rfl, fun W T => ?_⟩) (by assumption) ?_
    · go_simp
    try simp only [Act.put, List.setIfInBounds_toArray, List.set_cons_zero, List.set_cons_succ]
    refine wpAnyH_take (i := 1) (v := .string ⟨(ds a).toArray⟩) rfl (by kernel_rfl) (by kernel_rfl) (by kernel_rfl) (fun _ _ _ h => h) (Or.inl ⟨by rfl, fun W T => ?_⟩) (by assumption) ?_
    · have q0 : rowOf _ (w1.heap.size) = _ := T.row 0 _ rfl; have q1 : rowOf _ (w1.heap.size + 1) = _ := T.row 1 _ rfl; have c00 : World.cell? _ ⟨w1.heap.size, 0, none⟩ = some (.bool na) := T.cell 0 rfl 0; have c01 : World.cell? _ ⟨w1.heap.size, 1, none⟩ = some (.string ⟨(ds a).toArray⟩) := T.cell 0 rfl 1; have c02 : World.cell? _ ⟨w1.heap.size, 2, none⟩ = some (.int .i64 sa) := T.cell 0 rfl 2; have c10 : World.cell? _ ⟨w1.heap.size + 1, 0, none⟩ = some (.bool nb) := T.cell 1 rfl 0; have c11 : World.cell? _ ⟨w1.heap.size + 1, 1, none⟩ = some (.string ⟨(ds b).toArray⟩) := T.cell 1 rfl 1; have c12 : World.cell? _ ⟨w1.heap.size + 1, 2, none⟩ = some (.int .i64 sb) := T.cell 1 rfl 2; go_simp
    try simp only [Act.put, List.setIfInBounds_toArray, List.set_cons_zero, List.set_cons_succ]
    refine wpAnyH_take (i := 2) (v := Value.pointer (some ⟨w1.heap.size + 1, 2, none⟩)) rfl (by kernel_rfl) (by kernel_rfl) (by kernel_rfl) (fun _ _ _ h => h) (Or.inl ⟨by rfl, fun W T => ?_⟩) (by assumption) ?_
    · go_simp
    try simp only [Act.put, List.setIfInBounds_toArray, List.set_cons_zero, List.set_cons_succ]
    refine wpAnyH_take (i := 3) (v := .int .i64 sb) rfl (by kernel_rfl) (by kernel_rfl) (by kernel_rfl) (fun _ _ _ h => h) (Or.inl ⟨by rfl, fun W T => ?_⟩) (by assumption) ?_
    · have q0 : rowOf _ (w1.heap.size) = _ := T.row 0 _ rfl; have q1 : rowOf _ (w1.heap.size + 1) = _ := T.row 1 _ rfl; have c00 : World.cell? _ ⟨w1.heap.size, 0, none⟩ = some (.bool na) := T.cell 0 rfl 0; have c01 : World.cell? _ ⟨w1.heap.size, 1, none⟩ = some (.string ⟨(ds a).toArray⟩) := T.cell 0 rfl 1; have c02 : World.cell? _ ⟨w1.heap.size, 2, none⟩ = some (.int .i64 sa) := T.cell 0 rfl 2; have c10 : World.cell? _ ⟨w1.heap.size + 1, 0, none⟩ = some (.bool nb) := T.cell 1 rfl 0; have c11 : World.cell? _ ⟨w1.heap.size + 1, 1, none⟩ = some (.string ⟨(ds b).toArray⟩) := T.cell 1 rfl 1; have c12 : World.cell? _ ⟨w1.heap.size + 1, 2, none⟩ = some (.int .i64 sb) := T.cell 1 rfl 2; go_simp
    try simp only [Act.put, List.setIfInBounds_toArray, List.set_cons_zero, List.set_cons_succ]
    refine wpAnyH_take (i := 4) (v := .int .i64 t) rfl (by kernel_rfl) (by kernel_rfl) (by kernel_rfl) (fun _ _ _ h => h) (Or.inl ⟨by rfl, fun W T => ?_⟩) (by assumption) ?_
    · go_simp
    try simp only [Act.put, List.setIfInBounds_toArray, List.set_cons_zero, List.set_cons_succ]
    refine wpAnyH_take (i := 5) (v := .int .i64 k) rfl (by kernel_rfl) (by kernel_rfl) (by kernel_rfl) (fun _ _ _ h => h) (Or.inl ⟨by rfl, fun W T => ?_⟩) (by assumption) ?_
    · go_simp
    try simp only [Act.put, List.setIfInBounds_toArray, List.set_cons_zero, List.set_cons_succ]
    refine wpAnyH_take (i := 9) (v := Value.pointer (some ⟨w1.heap.size + 1, 1, none⟩)) rfl (by kernel_rfl) (by kernel_rfl) (by kernel_rfl) (fun _ _ _ h => h) (Or.inl ⟨by rfl, fun W T => ?_⟩) (by assumption) ?_
    · go_simp
    try simp only [Act.put, List.setIfInBounds_toArray, List.set_cons_zero, List.set_cons_succ]
    refine wpAnyH_take (i := 10) (v := .string ⟨(ds b).toArray⟩) rfl (by kernel_rfl) (by kernel_rfl) (by kernel_rfl) (fun _ _ _ h => h) (Or.inl ⟨by rfl, fun W T => ?_⟩) (by assumption) ?_
    · have q0 : rowOf _ (w1.heap.size) = _ := T.row 0 _ rfl; have q1 : rowOf _ (w1.heap.size + 1) = _ := T.row 1 _ rfl; have c00 : World.cell? _ ⟨w1.heap.size, 0, none⟩ = some (.bool na) := T.cell 0 rfl 0; have c01 : World.cell? _ ⟨w1.heap.size, 1, none⟩ = some (.string ⟨(ds a).toArray⟩) := T.cell 0 rfl 1; have c02 : World.cell? _ ⟨w1.heap.size, 2, none⟩ = some (.int .i64 sa) := T.cell 0 rfl 2; have c10 : World.cell? _ ⟨w1.heap.size + 1, 0, none⟩ = some (.bool nb) := T.cell 1 rfl 0; have c11 : World.cell? _ ⟨w1.heap.size + 1, 1, none⟩ = some (.string ⟨(ds b).toArray⟩) := T.cell 1 rfl 1; have c12 : World.cell? _ ⟨w1.heap.size + 1, 2, none⟩ = some (.int .i64 sb) := T.cell 1 rfl 2; go_simp
    try simp only [Act.put, List.setIfInBounds_toArray, List.set_cons_zero, List.set_cons_succ]
    refine wpAnyH_take (i := 11) (v := Value.pointer (some ⟨w1.heap.size, 2, none⟩)) rfl (by kernel_rfl) (by kernel_rfl) (by kernel_rfl) (fun _ _ _ h => h) (Or.inl ⟨by rfl, fun W T => ?_⟩) (by assumption) ?_
    · go_simp
    try simp only [Act.put, List.setIfInBounds_toArray, List.set_cons_zero, List.set_cons_succ]
    refine wpAnyH_take (i := 12) (v := .int .i64 sa) rfl (by kernel_rfl) (by kernel_rfl) (by kernel_rfl) (fun _ _ _ h => h) (Or.inl ⟨by rfl, fun W T => ?_⟩) (by assumption) ?_
    · have q0 : rowOf _ (w1.heap.size) = _ := T.row 0 _ rfl; have q1 : rowOf _ (w1.heap.size + 1) = _ := T.row 1 _ rfl; have c00 : World.cell? _ ⟨w1.heap.size, 0, none⟩ = some (.bool na) := T.cell 0 rfl 0; have c01 : World.cell? _ ⟨w1.heap.size, 1, none⟩ = some (.string ⟨(ds a).toArray⟩) := T.cell 0 rfl 1; have c02 : World.cell? _ ⟨w1.heap.size, 2, none⟩ = some (.int .i64 sa) := T.cell 0 rfl 2; have c10 : World.cell? _ ⟨w1.heap.size + 1, 0, none⟩ = some (.bool nb) := T.cell 1 rfl 0; have c11 : World.cell? _ ⟨w1.heap.size + 1, 1, none⟩ = some (.string ⟨(ds b).toArray⟩) := T.cell 1 rfl 1; have c12 : World.cell? _ ⟨w1.heap.size + 1, 2, none⟩ = some (.int .i64 sb) := T.cell 1 rfl 2; go_simp
    try simp only [Act.put, List.setIfInBounds_toArray, List.set_cons_zero, List.set_cons_succ]
    refine wpAnyH_ready (rs := [6]) (by kernel_rfl) (by simp) ?_
    refine AllReadyH.cons rfl (fun K hK => ?_) (AllReadyH.nil)
    go_simp
    go_at_call 49
    refine (Z1.out _).mono ?_
    rintro e wc ⟨rfl, hwc⟩
    obtain rfl := hwc.symm
    go_wp2_with fail
    refine hK.out _ _ X (fun _ => ?_)
    clear hK K
    try simp only [Act.put, List.setIfInBounds_toArray, List.set_cons_zero, List.set_cons_succ]
    refine wpAnyH_take (i := 7) (v := .string ⟨(dd (a * 10 ^ k) (dl a + k)).toArray⟩) rfl (by kernel_rfl) (by kernel_rfl) (by kernel_rfl) (fun _ _ _ h => h) (Or.inl ⟨by rfl, fun W T => ?_⟩) (by assumption) ?_
    · go_simp
    try simp only [Act.put, List.setIfInBounds_toArray, List.set_cons_zero, List.set_cons_succ]
    refine wpAnyH_ready (rs := [8]) (by kernel_rfl) (by simp) ?_
    refine AllReadyH.cons rfl (fun K hK => ?_) (AllReadyH.nil)
    go_simp
    go_at_call 59
    refine (B1.out _).mono ?_
    rintro e wc ⟨rfl, hwc⟩
    obtain rfl := hwc.symm
    go_wp2_with fail
    refine hK.out _ _ X (fun _ => ?_)
    clear hK K
    try simp only [Act.put, List.setIfInBounds_toArray, List.set_cons_zero, List.set_cons_succ]
    refine wpAnyH_ready (rs := [13]) (by kernel_rfl) (by simp) ?_
    refine AllReadyH.cons rfl (fun K hK => ?_) (AllReadyH.nil)
    go_simp
    go_at_call 49
    refine (Z2.out _).mono ?_
    rintro e wc ⟨rfl, hwc⟩
    obtain rfl := hwc.symm
    go_wp2_with fail
    refine hK.out _ _ X (fun _ => ?_)
    clear hK K
    try simp only [Act.put, List.setIfInBounds_toArray, List.set_cons_zero, List.set_cons_succ]
    refine wpAnyH_take (i := 14) (v := .string ⟨(dd (b * 10 ^ sa) (dl b + sa)).toArray⟩) rfl (by kernel_rfl) (by kernel_rfl) (by kernel_rfl) (fun _ _ _ h => h) (Or.inl ⟨by rfl, fun W T => ?_⟩) (by assumption) ?_
    · go_simp
    try simp only [Act.put, List.setIfInBounds_toArray, List.set_cons_zero, List.set_cons_succ]
    refine wpAnyH_ready (rs := [15]) (by kernel_rfl) (by simp) ?_
    refine AllReadyH.cons rfl (fun K hK => ?_) (AllReadyH.nil)
    go_simp
    go_at_call 59
    refine (B2.out _).mono ?_
    rintro e wc ⟨rfl, hwc⟩
    obtain rfl := hwc.symm
    go_wp2_with fail
    refine hK.out _ _ X (fun _ => ?_)
    clear hK K
    try simp only [Act.put, List.setIfInBounds_toArray, List.set_cons_zero, List.set_cons_succ]
    refine wpAnyH_ready (rs := [16]) (by kernel_rfl) (by simp) ?_
    refine AllReadyH.cons rfl (fun K hK => ?_) (AllReadyH.nil)
    go_simp
    go_at_call 73
    refine (QU.out _).mono ?_
    rintro e wc ⟨rfl, hb⟩
    have X := X.kept hb
    have K1 := K1.kept hb
    clear hb
    go_wp2_with fail
    refine hK.out _ _ X (fun _ => ?_)
    clear hK K
    try simp only [Act.put, List.setIfInBounds_toArray, List.set_cons_zero, List.set_cons_succ]
    refine wpAnyH_take (i := 17) (v := .tuple #[.string ⟨(ds (divQ a sa b sb t)).toArray⟩, .string ⟨(ds M).toArray⟩]) rfl (by kernel_rfl) (by kernel_rfl) (by kernel_rfl) (fun _ _ _ h => h) (Or.inl ⟨by rfl, fun W T => ?_⟩) (by assumption) ?_
    · go_simp
    try simp only [Act.put, List.setIfInBounds_toArray, List.set_cons_zero, List.set_cons_succ]
    refine wpAnyH_take (i := 18) (v := .string ⟨(ds (divQ a sa b sb t)).toArray⟩) rfl (by kernel_rfl) (by kernel_rfl) (by kernel_rfl) (fun _ _ _ h => h) (Or.inl ⟨by rfl, fun W T => ?_⟩) (by assumption) ?_
    · go_simp
    try simp only [Act.put, List.setIfInBounds_toArray, List.set_cons_zero, List.set_cons_succ]
    refine wpAnyH_take (i := 19) (v := .string ⟨(ds M).toArray⟩) rfl (by kernel_rfl) (by kernel_rfl) (by kernel_rfl) (fun _ _ _ h => h) (Or.inl ⟨by rfl, fun W T => ?_⟩) (by assumption) ?_
    · go_simp
    try simp only [Act.put, List.setIfInBounds_toArray, List.set_cons_zero, List.set_cons_succ]
    refine wpAnyH_ready (rs := [20]) (by kernel_rfl) (by simp) ?_
    refine AllReadyH.cons rfl (fun K hK => ?_) (AllReadyH.nil)
    go_simp
    refine hK.out _ _ X (fun _ => ?_)
    clear hK K
    try simp only [Act.put, List.setIfInBounds_toArray, List.set_cons_zero, List.set_cons_succ]
    refine wpAnyH_ready (rs := [21]) (by kernel_rfl) (by simp) ?_
    refine AllReadyH.cons rfl (fun K hK => ?_) (AllReadyH.nil)
    go_simp
    refine hK.out _ _ X (fun _ => ?_)
    clear hK K
    try simp only [Act.put, List.setIfInBounds_toArray, List.set_cons_zero, List.set_cons_succ]
    refine wpAnyH_done (by kernel_rfl) ?_ _
    go_wp2_with fail
    go_meet
    exact ⟨rfl, X, K1⟩
  case rest =>
    obtain ⟨rfl, X, K1⟩ := hcut
    have c00 : World.cell? _ ⟨w1.heap.size, 0, none⟩ = some (.bool na) := X.cell 0 rfl 0
    have c10 : World.cell? _ ⟨w1.heap.size + 1, 0, none⟩ = some (.bool nb) := X.cell 1 rfl 0
    have hne : (na != nb) = (!(na == nb)) := rfl
    go_wp2_with (first
      | (go_at_call 47; refine (MA.out _).mono ?_; rintro e w5 ⟨rfl, hb⟩; have K1 := K1.kept hb; clear hb)
      | (go_at_call 43; refine (WH.out _).mono ?_; rintro e w6 ⟨rfl, hb⟩; have K1 := K1.kept hb; clear hb))
    go_ret2
    exact ⟨rfl, K1.below⟩
set_option maxRecDepth 100000 in
set_option maxHeartbeats 8000000 in
theorem rrem_yes (x y : List UInt8) (na : Bool) (a sa : Nat) (nb : Bool) (b sb : Nat) (w : World) (TW : ∀ w, Calls Try.prog 61 #[.string ⟨x.toArray⟩, .string ⟨y.toArray⟩] w fun e w' => e = .returned (.tuple #[.agg (rcells na a sa), .agg (rcells nb b sb), .bool true]) ∧ Below w.heap.size w w')
    (hna : sgn na a = na) (hnb : sgn nb b = nb) (ha : dl a ≤ 31) (hb : dl b ≤ 31) (hsa : sa ≤ 31) (hsb : sb ≤ 31) (hb0 : b ≠ 0) :
    Calls Try.prog 35 #[.string ⟨x.toArray⟩, .string ⟨y.toArray⟩] w fun e w' => e = .returned (.tuple #[.string ⟨(wholeR na (scU a sa (max sa sb) % scU b sb (max sa sb)) (max sa sb)).1.toArray⟩, .int .i64 (wholeR na (scU a sa (max sa sb) % scU b sb (max sa sb)) (max sa sb)).2]) ∧ Below w.heap.size w w' := by
  have TW' := Lib.hid TW
  clear TW
  obtain ⟨S, hS⟩ : ∃ S, max sa sb = S := ⟨_, rfl⟩
  rw [hS]
  have hS1 : max (sa : Int) (sb : Int) = (S : Int) := by omega
  have C10 := fun w => rcut_any na a sa S w (by omega) (by omega) (by omega)
  have C20 := fun w => rcut_any nb b sb S w (by omega) (by omega) (by omega)
  have hX : dl (scU a sa S) ≤ 62 := dl_le_of (by decide) (sc_lt ha (by omega))
  have hY : dl (scU b sb S) ≤ 62 := dl_le_of (by decide) (sc_lt hb (by omega))
  have hY0 : scU b sb S ≠ 0 := fun e => hb0 ((scU_zero_iff (by omega)).1 e)
  have hbq : (ds b == [48]) = false := by rw [ds_beq]; simpa using hb0
  generalize scU a sa S = X0 at *
  generalize scU b sb S = Y0 at *
  generalize sgn na X0 = n1 at *
  generalize sgn nb Y0 = n2 at *
  have C1 := Lib.hid C10
  have C2 := Lib.hid C20
  have QU := Lib.hid (fun w => quotient_any X0 Y0 w (by omega) (by omega) (Nat.pos_of_ne_zero hY0))
  have hd : dl (X0 % Y0) ≤ 62 := Nat.le_trans (dl_mono (Nat.mod_le _ _)) hX
  have MA := Lib.hid (fun w => made_ds na (X0 % Y0) S w (by omega))
  have WH := Lib.hid (fun w => rwhole_any na (X0 % Y0) S w (by omega) (by omega))
  generalize X0 / Y0 = q at *
  generalize X0 % Y0 = r at *
  clear C10 C20 hd hY0 hX hY hS
  go_enter Try.func35, Try.ntmps35
  go_wp2_with (go_at_call 61; refine (TW'.out _).mono ?_; rintro e w1 ⟨rfl, hb⟩; have K1 := (Blk.nil w).kept hb; have X := ((Blk.nil w1).lay rfl (rcells na a sa) 50).lay (by simp) (rcells nb b sb) 50; have K1 := (K1.more (.cells (rcells na a sa) 50)).more (.cells (rcells nb b sb) 50); clear hb)
  go_cut [11] (fun s11 W => s11 = .string ⟨(ds r).toArray⟩ ∧ Blk w1 W [(rcells na a sa), (rcells nb b sb)] ∧ Blk w W [])
  case first =>
    refine wp_region_held_drew (S := fun W => Blk w1 W [(rcells na a sa), (rcells nb b sb)]) (by kernel_rfl) X.drew (fun hHeld => ?_)
    have X : Blk w1 _ [(rcells na a sa), (rcells nb b sb)] := hHeld
    have K1 := K1.drew
    clear hHeld
    refine wpAnyH_take (i := 0) (v := .agg (rcells na a sa)) rfl (by kernel_rfl) (by kernel_rfl) (by kernel_rfl) (fun _ _ _ h => h) (Or.inl ⟨by rfl, fun W T => ?_⟩) (by assumption) ?_
    · have q0 : rowOf _ (w1.heap.size) = _ := T.row 0 _ rfl; have q1 : rowOf _ (w1.heap.size + 1) = _ := T.row 1 _ rfl; have c00 : World.cell? _ ⟨w1.heap.size, 0, none⟩ = some (.bool na) := T.cell 0 rfl 0; have c01 : World.cell? _ ⟨w1.heap.size, 1, none⟩ = some (.string ⟨(ds a).toArray⟩) := T.cell 0 rfl 1; have c02 : World.cell? _ ⟨w1.heap.size, 2, none⟩ = some (.int .i64 sa) := T.cell 0 rfl 2; have c10 : World.cell? _ ⟨w1.heap.size + 1, 0, none⟩ = some (.bool nb) := T.cell 1 rfl 0; have c11 : World.cell? _ ⟨w1.heap.size + 1, 1, none⟩ = some (.string ⟨(ds b).toArray⟩) := T.cell 1 rfl 1; have c12 : World.cell? _ ⟨w1.heap.size + 1, 2, none⟩ = some (.int .i64 sb) := T.cell 1 rfl 2; go_simp
    try simp only [Act.put, List.setIfInBounds_toArray, List.set_cons_zero, List.set_cons_succ]
    refine wpAnyH_take (i := 1) (v := .int .i64 S) rfl (by kernel_rfl) (by kernel_rfl) (by kernel_rfl) (fun _ _ _ h => h) (Or.inl ⟨by rfl, fun W T => ?_⟩) (by assumption) ?_
    · go_simp
    try simp only [Act.put, List.setIfInBounds_toArray, List.set_cons_zero, List.set_cons_succ]
    refine wpAnyH_take (i := 4) (v := .agg (rcells nb b sb)) rfl (by kernel_rfl) (by kernel_rfl) (by kernel_rfl) (fun _ _ _ h => h) (Or.inl ⟨by rfl, fun W T => ?_⟩) (by assumption) ?_
    · have q0 : rowOf _ (w1.heap.size) = _ := T.row 0 _ rfl; have q1 : rowOf _ (w1.heap.size + 1) = _ := T.row 1 _ rfl; have c00 : World.cell? _ ⟨w1.heap.size, 0, none⟩ = some (.bool na) := T.cell 0 rfl 0; have c01 : World.cell? _ ⟨w1.heap.size, 1, none⟩ = some (.string ⟨(ds a).toArray⟩) := T.cell 0 rfl 1; have c02 : World.cell? _ ⟨w1.heap.size, 2, none⟩ = some (.int .i64 sa) := T.cell 0 rfl 2; have c10 : World.cell? _ ⟨w1.heap.size + 1, 0, none⟩ = some (.bool nb) := T.cell 1 rfl 0; have c11 : World.cell? _ ⟨w1.heap.size + 1, 1, none⟩ = some (.string ⟨(ds b).toArray⟩) := T.cell 1 rfl 1; have c12 : World.cell? _ ⟨w1.heap.size + 1, 2, none⟩ = some (.int .i64 sb) := T.cell 1 rfl 2; go_simp
    try simp only [Act.put, List.setIfInBounds_toArray, List.set_cons_zero, List.set_cons_succ]
    refine wpAnyH_take (i := 5) (v := .int .i64 S) rfl (by kernel_rfl) (by kernel_rfl) (by kernel_rfl) (fun _ _ _ h => h) (Or.inl ⟨by rfl, fun W T => ?_⟩) (by assumption) ?_
    · go_simp
    try simp only [Act.put, List.setIfInBounds_toArray, List.set_cons_zero, List.set_cons_succ]
    refine wpAnyH_ready (rs := [2]) (by kernel_rfl) (by simp) ?_
    refine AllReadyH.cons rfl (fun K hK => ?_) (AllReadyH.nil)
    go_simp
    go_at_call 44
    refine (C1.out _).mono ?_
    rintro e wc ⟨rfl, hb⟩
    have X := X.kept hb
    have K1 := K1.kept hb
    clear hb
    go_wp2_with fail
    refine hK.out _ _ X (fun _ => ?_)
    clear hK K
    try simp only [Act.put, List.setIfInBounds_toArray, List.set_cons_zero, List.set_cons_succ]
    refine wpAnyH_take (i := 3) (v := .string ⟨(ds X0).toArray⟩) rfl (by kernel_rfl) (by kernel_rfl) (by kernel_rfl) (fun _ _ _ h => h) (Or.inl ⟨by rfl, fun W T => ?_⟩) (by assumption) ?_
    · go_simp
    try simp only [Act.put, List.setIfInBounds_toArray, List.set_cons_zero, List.set_cons_succ]
    refine wpAnyH_ready (rs := [6]) (by kernel_rfl) (by simp) ?_
    refine AllReadyH.cons rfl (fun K hK => ?_) (AllReadyH.nil)
    go_simp
    go_at_call 44
    refine (C2.out _).mono ?_
    rintro e wc ⟨rfl, hb⟩
    have X := X.kept hb
    have K1 := K1.kept hb
    clear hb
    go_wp2_with fail
    refine hK.out _ _ X (fun _ => ?_)
    clear hK K
    try simp only [Act.put, List.setIfInBounds_toArray, List.set_cons_zero, List.set_cons_succ]
    refine wpAnyH_take (i := 7) (v := .string ⟨(ds Y0).toArray⟩) rfl (by kernel_rfl) (by kernel_rfl) (by kernel_rfl) (fun _ _ _ h => h) (Or.inl ⟨by rfl, fun W T => ?_⟩) (by assumption) ?_
    · go_simp
    try simp only [Act.put, List.setIfInBounds_toArray, List.set_cons_zero, List.set_cons_succ]
    refine wpAnyH_ready (rs := [8]) (by kernel_rfl) (by simp) ?_
    refine AllReadyH.cons rfl (fun K hK => ?_) (AllReadyH.nil)
    go_simp
    go_at_call 73
    refine (QU.out _).mono ?_
    rintro e wc ⟨rfl, hb⟩
    have X := X.kept hb
    have K1 := K1.kept hb
    clear hb
    go_wp2_with fail
    refine hK.out _ _ X (fun _ => ?_)
    clear hK K
    try simp only [Act.put, List.setIfInBounds_toArray, List.set_cons_zero, List.set_cons_succ]
    refine wpAnyH_take (i := 9) (v := .tuple #[.string ⟨(ds q).toArray⟩, .string ⟨(ds r).toArray⟩]) rfl (by kernel_rfl) (by kernel_rfl) (by kernel_rfl) (fun _ _ _ h => h) (Or.inl ⟨by rfl, fun W T => ?_⟩) (by assumption) ?_
    · go_simp
    try simp only [Act.put, List.setIfInBounds_toArray, List.set_cons_zero, List.set_cons_succ]
    refine wpAnyH_take (i := 10) (v := .string ⟨(ds q).toArray⟩) rfl (by kernel_rfl) (by kernel_rfl) (by kernel_rfl) (fun _ _ _ h => h) (Or.inl ⟨by rfl, fun W T => ?_⟩) (by assumption) ?_
    · go_simp
    try simp only [Act.put, List.setIfInBounds_toArray, List.set_cons_zero, List.set_cons_succ]
    refine wpAnyH_take (i := 11) (v := .string ⟨(ds r).toArray⟩) rfl (by kernel_rfl) (by kernel_rfl) (by kernel_rfl) (fun _ _ _ h => h) (Or.inl ⟨by rfl, fun W T => ?_⟩) (by assumption) ?_
    · go_simp
    try simp only [Act.put, List.setIfInBounds_toArray, List.set_cons_zero, List.set_cons_succ]
    refine wpAnyH_ready (rs := [12]) (by kernel_rfl) (by simp) ?_
    refine AllReadyH.cons rfl (fun K hK => ?_) (AllReadyH.nil)
    go_simp
    refine hK.out _ _ X (fun _ => ?_)
    clear hK K
    try simp only [Act.put, List.setIfInBounds_toArray, List.set_cons_zero, List.set_cons_succ]
    refine wpAnyH_ready (rs := [13]) (by kernel_rfl) (by simp) ?_
    refine AllReadyH.cons rfl (fun K hK => ?_) (AllReadyH.nil)
    go_simp
    refine hK.out _ _ X (fun _ => ?_)
    clear hK K
    try simp only [Act.put, List.setIfInBounds_toArray, List.set_cons_zero, List.set_cons_succ]
    refine wpAnyH_done (by kernel_rfl) ?_ _
    go_wp2_with fail
    go_meet
    exact ⟨rfl, X, K1⟩
  case rest =>
    obtain ⟨rfl, X, K1⟩ := hcut
    have c00 : World.cell? _ ⟨w1.heap.size, 0, none⟩ = some (.bool na) := X.cell 0 rfl 0
    go_wp2_with (first
      | (go_at_call 47; refine (MA.out _).mono ?_; rintro e w5 ⟨rfl, hb⟩; have K1 := K1.kept hb; clear hb)
      | (go_at_call 43; refine (WH.out _).mono ?_; rintro e w6 ⟨rfl, hb⟩; have K1 := K1.kept hb; clear hb))
    go_ret2
    exact ⟨rfl, K1.below⟩
end Go.Proofs.Ytkcogoibaodbeaa
