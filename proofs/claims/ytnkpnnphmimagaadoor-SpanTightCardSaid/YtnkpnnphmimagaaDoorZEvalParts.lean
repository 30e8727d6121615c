/-
  EvalParts: a number is its part times what it was divided by, and a rest that is smaller than that. No condition.
-/
import Derived.Test.YtnkpnnphmimagaaDoorZEvalSums
namespace Go.Proofs.YtnkpnnphmimagaaDoor
set_option linter.unusedSimpArgs false
set_option linter.unusedVariables false
open Go.RowKit
open Go.Lib

theorem ev_bi_bad2 {cols : List Cl} {row : List Vl} {op : Nat} {x y : Ex} {v : Vl} {e : Nat} (h1 : evF cols row x = ⟨v, 0⟩) (hs : shortB op v = false) (h2 : evF cols row y = .bad e) (he : e ≠ 0) : evF cols row (.bi op x y) = .bad e := by
  rw [evF, h1, h2]
  show (if (0 : Nat) = 0 then (if shortB op v = true then _ else if e = 0 then _ else Tv.bad e) else _) = _
  rw [if_pos rfl, if_neg (by rw [hs]; decide), if_neg he]
/-- What there is to know of a part and its rest. -/
theorem parts_law {a b : Int} (ha : I64 a) (hb : I64 b) (hb0 : b ≠ 0) (hm : ¬ (a = -9223372036854775808 ∧ b = -1)) :
    I64 (Int.tdiv a b) ∧ I64 (Int.tdiv a b * b) ∧ Int.tdiv a b * b + Int.tmod a b = a ∧ (0 ≤ a → 0 ≤ Int.tmod a b) ∧ (a ≤ 0 → Int.tmod a b ≤ 0) ∧ (0 < b → Int.tmod a b < b ∧ -b < Int.tmod a b) ∧ (b < 0 → Int.tmod a b < -b ∧ b < Int.tmod a b) := by
  have e1 : Int.tdiv a b * b + Int.tmod a b = a := by rw [Int.mul_comm]; exact Int.mul_tdiv_add_tmod a b
  have e2 : (Int.tmod a b).natAbs = a.natAbs % b.natAbs := Int.natAbs_tmod a b
  have e3 : (Int.tdiv a b).natAbs = a.natAbs / b.natAbs := Int.natAbs_tdiv a b
  have e4 : a.natAbs % b.natAbs < b.natAbs := Nat.mod_lt _ (by omega)
  have e5 : a.natAbs % b.natAbs ≤ a.natAbs := Nat.mod_le _ _
  have s1 : 0 ≤ a → 0 ≤ Int.tmod a b := fun h => Int.tmod_nonneg b h
  have s2 : a ≤ 0 → Int.tmod a b ≤ 0 := fun h => by
    have := Int.tmod_nonneg b (a := -a) (by omega)
    rw [Int.neg_tmod] at this
    omega
  unfold I64 at *
  have hM : -9223372036854775808 ≤ Int.tdiv a b * b ∧ Int.tdiv a b * b ≤ 9223372036854775807 := by
    rcases Int.le_total 0 a with h | h
    · have := s1 h; omega
    · have := s2 h; omega
  have hq : -9223372036854775808 ≤ Int.tdiv a b ∧ Int.tdiv a b ≤ 9223372036854775807 := by
    by_cases h1 : b = 1
    · subst h1; rw [Int.mul_one] at hM; exact hM
    · by_cases h2 : b = -1
      · subst h2
        rw [Int.mul_neg, Int.mul_one] at hM e1
        have : (Int.tmod a (-1)).natAbs = 0 := by rw [e2]; exact Nat.mod_one _
        omega
      · have h3 : a.natAbs / b.natAbs ≤ a.natAbs / 2 := Nat.div_le_div_left (by omega) (by omega)
        omega
  refine ⟨hq, hM, e1, s1, s2, fun h => ?_, fun h => ?_⟩ <;> omega
theorem mul_ok {q b : Int} (hq : I64 q) (hb0 : b ≠ 0) (hM : I64 (q * b)) : mulB q b = true := by
  unfold mulB
  rw [w64_of hM, Int.mul_tdiv_cancel q hb0, w64_of hq]
  have h1 : (q == -1 && b == -9223372036854775808) = false := by
    rw [Bool.and_eq_false_iff]
    by_cases h : q = -1
    · refine .inr (beq_eq_false_iff_ne.2 fun h2 => ?_)
      subst h h2
      unfold I64 at hM
      omega
    · exact .inl (beq_eq_false_iff_ne.2 h)
  have h2 : (b == -1 && q == -9223372036854775808) = false := by
    rw [Bool.and_eq_false_iff]
    by_cases h : b = -1
    · refine .inr (beq_eq_false_iff_ne.2 fun h2 => ?_)
      subst h h2
      unfold I64 at hM
      omega
    · exact .inl (beq_eq_false_iff_ne.2 h)
  rw [h1, h2]
  simp
abbrev divX : Ex := .bi 8 (.col aN) (.col bN)
abbrev mulX : Ex := .bi 7 divX (.col bN)
abbrev restX : Ex := .bi 6 (.col aN) mulX
theorem div_ev (a b : Int) : evF abC [numV a, numV b] divX = if b = 0 then .bad 7 else if a = -9223372036854775808 ∧ b = -1 then .bad 6 else ⟨numV (w64 (Int.tdiv a b)), 0⟩ := ev_bi (evA a b) (evB a b) rfl
theorem mul_ev {a b q : Int} (hd : evF abC [numV a, numV b] divX = ⟨numV q, 0⟩) (hq : I64 q) (hb0 : b ≠ 0) (hM : I64 (q * b)) : evF abC [numV a, numV b] mulX = ⟨numV (q * b), 0⟩ := by
  have h : evF abC [numV a, numV b] mulX = if q = 0 ∨ b = 0 then ⟨numV 0, 0⟩ else if mulB q b = true then ⟨numV (w64 (q * b)), 0⟩ else .bad 6 := ev_bi hd (evB a b) rfl
  rw [h]
  split
  · rename_i h0
    rcases h0 with h0 | h0
    · subst h0; rw [Int.zero_mul]
    · exact absurd h0 hb0
  · rw [if_pos (mul_ok hq hb0 hM), w64_of hM]
set_option maxHeartbeats 4000000 in
theorem evalParts_pc (a b : Int) (ha : I64 a) (hb : I64 b) : PC Tryd.prog 8 [iD a, iD b] (bD true) := by
  have i1 := ints_pc a b
  have ca := colA_pc
  have cb := colB_pc
  have tl := evalTells_pc
  have oka : (Ex.col aN).ok := by show NameOk aN; decide
  have okb : (Ex.col bN).ok := by show NameOk bN; decide
  have q1 := op2_pc 8 (.col aN) (.col bN)
  have q2 := op2_pc 7 divX (.col bN)
  have q3 := op2_pc 6 (.col aN) mulX
  have e1 := evalX_pc abC abC_ok [numV a, numV b] (abC_fit a b) restX ⟨by unfold bi2; omega, oka, by unfold bi2; omega, ⟨by unfold bi2; omega, oka, okb⟩, okb⟩ (by decide) (by decide)
  have hx1 : divX.cs = [iD 8, iD 0, iD 0, qD 0, strD .empty, strD .empty, .sl 7 [(Ex.col aN).cs, (Ex.col bN).cs]] := rfl
  by_cases hb0 : b = 0
  · have r1 : evF abC [numV a, numV b] restX = .bad 7 := ev_bi_bad2 (evA a b) rfl (ev_bi_bad (by rw [div_ev, if_pos hb0]) (by decide)) (by decide)
    rw [r1] at e1
    unfold tvD Vl.cs at *
    dsimp only at *
    clear r1 oka okb
    generalize (Ex.bi 6 (.col aN) mulX).cs = x3 at *
    generalize (Ex.bi 7 divX (.col bN)).cs = x2 at *
    generalize divX.cs = x1 at *
    subst hb0 hx1
    refine pc_of_aw Tryd.func8 rfl (by kernel_rfl) mixed (by kernel_rfl) (by rw [Tryd.ntmps8]; exact Nat.le_of_ble_eq_true rfl) Tryd.results8 ?_
    repeat (first | (with_reducible first | apply aw_seq | apply aw_reg | apply rp_nil | apply ae_norm | apply aw_regD | apply aw_ret | apply ae_ret | apply re_ret) | ((with_reducible apply dr_nil); (first | kernel_rfl | exact rfl)) | ((with_reducible first | apply rp | apply dr); first | ((with_reducible apply does_call'); exact rfl; exact rfl; exact rfl; exact (i1)) | ((with_reducible apply does_call'); exact rfl; exact rfl; exact rfl; exact (ca)) | ((with_reducible apply does_call'); exact rfl; exact rfl; exact rfl; exact (cb)) | ((with_reducible apply does_call'); exact rfl; exact rfl; exact rfl; exact (q1)) | ((with_reducible apply does_call'); exact rfl; exact rfl; exact rfl; exact (q2)) | ((with_reducible apply does_call'); exact rfl; exact rfl; exact rfl; exact (q3)) | ((with_reducible apply does_call_flat); exact rfl; exact rfl; exact (e1); exact rfl) | ((with_reducible apply does_move); (conv => lhs; whnf)) | ((with_reducible apply does_assign); (conv => lhs; whnf)) | ((with_reducible apply does_load_row); exact tyOk rfl; exact rfl; exact rfl; exact rfl; exact Nat.le_of_ble_eq_true rfl; exact rfl) | ((with_reducible apply does_eq); exact rfl; exact rfl) | ((with_reducible apply does_extract); exact rfl; exact rfl)) | ((with_reducible first | apply rp1 | apply dr1); ((with_reducible apply does_alloc); exact tyOk rfl; exact rfl)) | ((with_reducible first | apply rpN | apply drN); ((with_reducible apply does_store_whole); exact tyOk rfl; exact rfl; exact rfl; exact rfl; exact rfl; exact rfl)) | ((with_reducible apply aw_cond); exact rfl; rotate_left; (focus (intro hd; (cases hd; done))); (intro hd; clear hd)))
    (with_reducible apply ret_ok); (focus (repeat' (first | (with_reducible apply rv_nil) | (with_reducible apply rv_cons) | ((with_reducible apply rv_tmp); exact rfl)))); exact rfl; refine SubD.of_eq ?_
    rfl
  by_cases hm : a = -9223372036854775808 ∧ b = -1
  · have r1 : evF abC [numV a, numV b] restX = .bad 6 := ev_bi_bad2 (evA a b) rfl (ev_bi_bad (by rw [div_ev, if_neg hb0, if_pos hm]) (by decide)) (by decide)
    rw [r1] at e1
    obtain ⟨rfl, rfl⟩ := hm
    unfold tvD Vl.cs at *
    dsimp only at *
    clear r1 oka okb
    generalize (Ex.bi 6 (.col aN) mulX).cs = x3 at *
    generalize (Ex.bi 7 divX (.col bN)).cs = x2 at *
    generalize divX.cs = x1 at *
    subst hx1
    refine pc_of_aw Tryd.func8 rfl (by kernel_rfl) mixed (by kernel_rfl) (by rw [Tryd.ntmps8]; exact Nat.le_of_ble_eq_true rfl) Tryd.results8 ?_
    repeat (first | (with_reducible first | apply aw_seq | apply aw_reg | apply rp_nil | apply ae_norm | apply aw_regD | apply aw_ret | apply ae_ret | apply re_ret | apply aw_skip) | ((with_reducible apply dr_nil); (first | kernel_rfl | exact rfl)) | ((first | (with_reducible first | apply rp | apply dr) | ((with_reducible apply rpG); exact rfl; exact gval_t rfl; (focus repeat' (first | exact trivial | exact fun h => h | refine And.intro ?_ ?_)); intro hgd; have hgd0 := hgd; (try simp only [decide_eq_true_eq, Bool.and_eq_true, Bool.not_eq_true', beq_iff_eq] at hgd))); first | ((with_reducible apply does_call'); exact rfl; exact rfl; exact rfl; exact (i1)) | ((with_reducible apply does_call'); exact rfl; exact rfl; exact rfl; exact (ca)) | ((with_reducible apply does_call'); exact rfl; exact rfl; exact rfl; exact (cb)) | ((with_reducible apply does_call'); exact rfl; exact rfl; exact rfl; exact (q1)) | ((with_reducible apply does_call'); exact rfl; exact rfl; exact rfl; exact (q2)) | ((with_reducible apply does_call'); exact rfl; exact rfl; exact rfl; exact (q3)) | ((with_reducible apply does_call_flat); exact rfl; exact rfl; exact (e1); exact rfl) | ((with_reducible apply does_move); (conv => lhs; whnf)) | ((with_reducible apply does_assign); (conv => lhs; whnf)) | ((with_reducible apply does_and); exact rfl; exact rfl; exact rfl; exact fun h => h) | ((with_reducible apply does_load_row); exact tyOk rfl; exact rfl; exact rfl; exact rfl; exact Nat.le_of_ble_eq_true rfl; exact rfl) | ((with_reducible apply does_eq); exact rfl; exact rfl) | ((with_reducible apply does_extract); exact rfl; exact rfl)) | ((with_reducible first | apply rp1 | apply dr1); ((with_reducible apply does_alloc); exact tyOk rfl; exact rfl)) | ((with_reducible first | apply rpN | apply drN); ((with_reducible apply does_store_whole); exact tyOk rfl; exact rfl; exact rfl; exact rfl; exact rfl; exact rfl)) | ((with_reducible apply aw_cond); exact rfl; (focus (intro hd; (cases hd; done))); (intro hd; clear hd)) | ((with_reducible apply aw_cond); exact rfl; rotate_left; (focus (intro hd; (cases hd; done))); (intro hd; clear hd)))
    (with_reducible apply ret_ok); (focus (repeat' (first | (with_reducible apply rv_nil) | (with_reducible apply rv_cons) | ((with_reducible apply rv_tmp); exact rfl)))); exact rfl; refine SubD.of_eq ?_
    rfl
  obtain ⟨p1, p2, p3, p4, p5, p6, p7⟩ := parts_law ha hb hb0 hm
  have r0 : evF abC [numV a, numV b] divX = ⟨numV (Int.tdiv a b), 0⟩ := by rw [div_ev, if_neg hb0, if_neg hm, w64_of p1]
  have r2 := mul_ev r0 p1 hb0 p2
  have r1 : evF abC [numV a, numV b] restX = if subB a (Int.tdiv a b * b) = true then ⟨numV (w64 (a - Int.tdiv a b * b)), 0⟩ else .bad 6 := ev_bi (evA a b) r2 rfl
  have hR : a - Int.tdiv a b * b = Int.tmod a b := by omega
  have hRI : I64 (Int.tmod a b) := by
    unfold I64 at *
    rcases Int.le_total 0 a with h | h
    · have := p4 h
      rcases Int.lt_or_gt_of_ne hb0 with h2 | h2
      · have := p7 h2; omega
      · have := p6 h2; omega
    · have := p5 h
      rcases Int.lt_or_gt_of_ne hb0 with h2 | h2
      · have := p7 h2; omega
      · have := p6 h2; omega
  rw [if_pos ((sub_iff ha p2).2 (by rw [hR]; exact hRI)), hR, w64_of hRI] at r1
  rw [r1] at e1
  clear r0 r1 r2 oka okb p1 p2 p3 hR
  generalize Int.tmod a b = R at *
  unfold tvD Vl.cs at *
  dsimp only at *
  generalize (Ex.bi 6 (.col aN) mulX).cs = x3 at *
  generalize (Ex.bi 7 divX (.col bN)).cs = x2 at *
  generalize divX.cs = x1 at *
  subst hx1
  have hmf : (a == -9223372036854775808 && b == -1) = false := by
    rw [Bool.and_eq_false_iff]
    by_cases h : a = -9223372036854775808
    · exact .inr (beq_eq_false_iff_ne.2 fun h2 => hm ⟨h, h2⟩)
    · exact .inl (beq_eq_false_iff_ne.2 h)
  have hbf : (b == 0) = false := beq_eq_false_iff_ne.2 hb0
  refine pc_of_aw Tryd.func8 rfl (by kernel_rfl) mixed (by kernel_rfl) (by rw [Tryd.ntmps8]; exact Nat.le_of_ble_eq_true rfl) Tryd.results8 ?_
  repeat (first | (with_reducible first | apply aw_seq | apply aw_reg | apply rp_nil | apply ae_norm | apply aw_regD) | ((with_reducible apply dr_nil); (first | kernel_rfl | exact rfl)) | ((with_reducible first | apply rp | apply dr); first | ((with_reducible apply does_call'); exact rfl; exact rfl; exact rfl; exact (i1)) | ((with_reducible apply does_call'); exact rfl; exact rfl; exact rfl; exact (ca)) | ((with_reducible apply does_call'); exact rfl; exact rfl; exact rfl; exact (cb)) | ((with_reducible apply does_call'); exact rfl; exact rfl; exact rfl; exact (q1)) | ((with_reducible apply does_call'); exact rfl; exact rfl; exact rfl; exact (q2)) | ((with_reducible apply does_call'); exact rfl; exact rfl; exact rfl; exact (q3)) | ((with_reducible apply does_call_flat); exact rfl; exact rfl; exact (e1); exact rfl) | ((with_reducible apply does_move); (conv => lhs; whnf)) | ((with_reducible apply does_assign); (conv => lhs; whnf)) | ((with_reducible apply does_load_row); exact tyOk rfl; exact rfl; exact rfl; exact rfl; exact Nat.le_of_ble_eq_true rfl; exact rfl) | ((with_reducible apply does_eq); exact rfl; exact rfl) | ((with_reducible apply does_extract); exact rfl; exact rfl)) | ((with_reducible first | apply rp1 | apply dr1); ((with_reducible apply does_alloc); exact tyOk rfl; exact rfl)) | ((with_reducible first | apply rpN | apply drN); ((with_reducible apply does_store_whole); exact tyOk rfl; exact rfl; exact rfl; exact rfl; exact rfl; exact rfl)))
  refine aw_cond rfl (fun hd => absurd (hbf.symm.trans hd) (by decide)) (fun hd => ?_)
  clear hd
  repeat (first | (with_reducible first | apply aw_seq | apply aw_reg | apply rp_nil | apply ae_norm | apply aw_skip) | ((first | (with_reducible apply rp) | ((with_reducible apply rpG); exact rfl; exact gval_t rfl; (focus repeat' (first | exact trivial | exact fun h => h | refine And.intro ?_ ?_)); intro hgd; have hgd0 := hgd; (try simp only [decide_eq_true_eq, Bool.and_eq_true, Bool.not_eq_true', beq_iff_eq] at hgd))); first | ((with_reducible apply does_move); (conv => lhs; whnf)) | ((with_reducible apply does_and); exact rfl; exact rfl; exact rfl; exact fun h => h) | ((with_reducible apply does_eq); exact rfl; exact rfl)))
  refine aw_cond rfl (fun hd => absurd (hmf.symm.trans hd) (by decide)) (fun hd => ?_)
  clear hd
  repeat (first | (with_reducible first | apply aw_seq | apply aw_reg | apply rp_nil | apply ae_norm | apply aw_ret | apply re_ret | apply aw_skip) | ((first | (with_reducible apply rp) | ((with_reducible apply rpG); exact rfl; (first | exact gval_t rfl | exact gval_gt rfl | exact gval_gf rfl); (focus repeat' (first | exact trivial | exact fun h => h | refine And.intro ?_ ?_ | (intro h; simp_all))); intro hgd; have hgd0 := hgd; (try simp only [decide_eq_true_eq, Bool.and_eq_true, Bool.not_eq_true', beq_iff_eq] at hgd))); first | ((with_reducible apply does_call_flat); exact rfl; exact rfl; exact (tl); exact rfl) | ((with_reducible apply does_move); (conv => lhs; whnf)) | ((with_reducible apply does_assign); (conv => lhs; whnf)) | ((with_reducible apply does_and); exact rfl; exact rfl; exact rfl; (first | exact fun h => h | (intro h; (rw [hgd0, h]; rfl)))) | ((with_reducible apply does_or); exact rfl; exact rfl; exact rfl; (first | exact fun h => h | (intro h; (rw [hgd0, h]; rfl)))) | ((with_reducible apply does_fieldAddr); exact tyOk rfl; exact rfl; exact rfl; decide; exact rfl) | ((with_reducible apply does_load_var); exact tyOk rfl; exact rfl; exact rfl; exact rfl; exact rfl) | ((with_reducible apply does_eq); exact rfl; exact rfl) | ((with_reducible apply does_lt); exact rfl; exact rfl) | ((with_reducible apply does_gt); exact rfl; exact rfl) | ((with_reducible apply does_beq); exact tyOk rfl; exact rfl; exact rfl; exact rfl; exact rfl) | ((with_reducible apply does_neg); exact rfl)) | ((first | (with_reducible apply rpGP) | (with_reducible apply drGP)); exact rfl; (first | exact gval_t rfl | exact gval_gt rfl | exact gval_gf rfl); (focus repeat' (first | exact trivial | exact fun h => h | refine And.intro ?_ ?_ | (intro h; simp_all))); (intro hgd; have hgd0 := hgd; (try simp only [decide_eq_true_eq, Bool.and_eq_true, Bool.not_eq_true', beq_iff_eq] at hgd); first | ((with_reducible apply does_or); exact rfl; exact rfl; exact rfl; (first | exact fun h => h | (intro h; (rw [hgd0, h]; rfl)))) | ((with_reducible apply does_and); exact rfl; exact rfl; exact rfl; (first | exact fun h => h | (intro h; (rw [hgd0, h]; rfl)))))))
  (with_reducible apply ret_ok); (focus (repeat' (first | (with_reducible apply rv_nil) | (with_reducible apply rv_cons) | ((with_reducible apply rv_tmp); exact rfl)))); exact rfl; refine SubD.of_eq ?_
  have hw : (b = -9223372036854775808 ∧ w64 (0 - b) = -9223372036854775808) ∨ (b ≠ -9223372036854775808 ∧ w64 (0 - b) = -b) := by
    unfold w64
    rw [IntKind.wrap_i64]
    unfold I64 at hb
    omega
  change _ = bD true
  refine congrArg bD (a₂ := true) ?_
  change _ = true
  generalize hW : IntKind.i64.wrap (0 - b) = W at *
  change (b = -9223372036854775808 ∧ IntKind.i64.wrap (0 - b) = -9223372036854775808) ∨ (b ≠ -9223372036854775808 ∧ IntKind.i64.wrap (0 - b) = -b) at hw
  rw [hW] at hw
  simp only [Bool.and_eq_true, Bool.or_eq_true, decide_eq_true_eq, beq_iff_eq, decide_eq_decide]
  unfold I64 at *
  refine ⟨⟨⟨⟨trivial, rfl⟩, trivial⟩, ?_⟩, ?_⟩ <;> omega
theorem evalParts_walk (a b : Int) (w : World) (ha : I64 a) (hb : I64 b) (hg : GlOk (Lt w) w) : Calls Tryd.prog 8 #[.int .i64 a, .int .i64 b] w fun e w' => e = .returned (.bool true) ∧ Below w.heap.size w w' :=
  calls_of_pc (evalParts_pc a b ha hb) (rep_cons (rep_int w a) (rep_cons (rep_int w b) rfl)) hg
end Go.Proofs.YtnkpnnphmimagaaDoor

