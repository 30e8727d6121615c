/-
  EvalSums: what is added is taken away again; a sum is refused just if it is no number of 64 bits. No condition.
-/
import Derived.Test.YtnkpnnphmimagaaDoorZEvH
namespace Go.Proofs.YtnkpnnphmimagaaDoor
set_option linter.unusedSimpArgs false
set_option linter.unusedVariables false
open Go.RowKit
open Go.Lib

theorem findA : findI aN 0 abC = some 0 := by decide
theorem findB : findI bN 0 abC = some 1 := by decide
theorem evA (a b : Int) : evF abC [numV a, numV b] (.col aN) = ⟨numV a, 0⟩ := by unfold evF; rw [findA]; rfl
theorem evB (a b : Int) : evF abC [numV a, numV b] (.col bN) = ⟨numV b, 0⟩ := by unfold evF; rw [findB]; rfl
theorem ev_bi {cols : List Cl} {row : List Vl} {op : Nat} {x y : Ex} {v w : Vl} (h1 : evF cols row x = ⟨v, 0⟩) (h2 : evF cols row y = ⟨w, 0⟩) (hs : shortB op v = false) : evF cols row (.bi op x y) = twoF op v w := by
  rw [evF, h1, h2]
  show (if (0 : Nat) = 0 then (if shortB op v = true then _ else if (0 : Nat) = 0 then twoF op v w else _) else _) = _
  rw [if_pos rfl, if_neg (by rw [hs]; decide), if_pos rfl]
theorem ev_bi_bad {cols : List Cl} {row : List Vl} {op : Nat} {x y : Ex} {e : Nat} (h1 : evF cols row x = .bad e) (he : e ≠ 0) : evF cols row (.bi op x y) = .bad e := by
  rw [evF, h1]
  exact if_neg he
theorem add_iff {a b : Int} (ha : I64 a) (hb : I64 b) : addB a b = true ↔ I64 (a + b) := by
  unfold addB w64 I64 at *
  rw [IntKind.wrap_i64]
  simp only [Bool.or_eq_true, beq_iff_eq, decide_eq_decide]
  omega
theorem sub_iff {a b : Int} (ha : I64 a) (hb : I64 b) : subB a b = true ↔ I64 (a - b) := by
  unfold subB w64 I64 at *
  rw [IntKind.wrap_i64]
  simp only [Bool.or_eq_true, beq_iff_eq, decide_eq_decide]
  omega
theorem w64_of {n : Int} (h : I64 n) : w64 n = n := wrap64_of h.1 h.2
theorem ofInt_wrap (n : Int) : BitVec.ofInt 64 (IntKind.i64.wrap n) = BitVec.ofInt 64 n := by
  rw [IntKind.wrap_i64]
  apply BitVec.eq_of_toNat_eq
  rw [BitVec.toNat_ofInt, BitVec.toNat_ofInt]
  congr 1
  omega
theorem low_bit (a b : Int) : bitV .and .i64 (bitV .and .i64 a b) 1 = if a % 2 = 1 ∧ b % 2 = 1 then 1 else 0 := by
  show IntKind.i64.wrap ((BitVec.ofInt 64 (IntKind.i64.wrap ((BitVec.ofInt 64 a &&& BitVec.ofInt 64 b).toNat : Int)) &&& BitVec.ofInt 64 1).toNat : Int) = _
  rw [ofInt_wrap]
  have e1 : BitVec.ofInt 64 (((BitVec.ofInt 64 a &&& BitVec.ofInt 64 b).toNat : Nat) : Int) = BitVec.ofInt 64 a &&& BitVec.ofInt 64 b := by
    apply BitVec.eq_of_toNat_eq
    rw [BitVec.toNat_ofInt]
    have := (BitVec.ofInt 64 a &&& BitVec.ofInt 64 b).isLt
    omega
  rw [e1, BitVec.toNat_and, BitVec.toNat_and]
  have ha : (BitVec.ofInt 64 a).toNat % 2 = (a % 2).toNat := by rw [BitVec.toNat_ofInt]; omega
  have hb : (BitVec.ofInt 64 b).toNat % 2 = (b % 2).toNat := by rw [BitVec.toNat_ofInt]; omega
  have h1 : (BitVec.ofInt 64 1).toNat = 1 := rfl
  rw [h1, Nat.and_one_is_mod]
  generalize (BitVec.ofInt 64 a).toNat = x at *
  generalize (BitVec.ofInt 64 b).toNat = y at *
  have hxy : (x &&& y) % 2 = if a % 2 = 1 ∧ b % 2 = 1 then 1 else 0 := by
    have t := Nat.testBit_and x y 0
    simp only [Nat.testBit_zero] at t
    generalize x &&& y = z at *
    have t2 : z % 2 = 1 ↔ (x % 2 = 1 ∧ y % 2 = 1) := by rw [← decide_eq_true_iff (p := z % 2 = 1), t]; simp
    split <;> omega
  rw [hxy]
  split <;> rfl
section
variable {P : Program} {dst : Option Nat} {ty : TypeId} {e : Operand → A} {β : Bx} {T T' : TypeId} {x y : Operand}
theorem does_shr1 {a z : Int} {k' : IntKind} (hx : e x = .d (iD a)) (hy : e y = .d (.sc (.int k' 1))) (hz : a / 2 = z) : Does P dst (.binOp .shr T x y T') ty e β (.d (iD z)) [] [] := by
  subst hz
  have h := does_shr (P := P) (dst := dst) (ty := ty) (β := β) (T := T) (T' := T') hx hy (by omega)
  have e2 : Int.fdiv a (2 ^ (min (Int.toNat 1) IntKind.i64.bits)) = a / 2 := by
    show Int.fdiv a (2 ^ 1) = a / 2
    rw [show (2 : Int) ^ 1 = 2 from rfl, Int.fdiv_eq_ediv_of_nonneg _ (by omega)]
  rwa [e2] at h
end
set_option maxHeartbeats 2000000 in
theorem evalSums_pc (a b : Int) (ha : I64 a) (hb : I64 b) : PC Tryd.prog 7 [iD a, iD b] (bD true) := by
  have i1 := ints_pc a b
  have ca := colA_pc
  have cb := colB_pc
  have oka : (Ex.col aN).ok := by show NameOk aN; decide
  have okb : (Ex.col bN).ok := by show NameOk bN; decide
  have q1 := op2_pc 5 (.col aN) (.col bN)
  have q2 := op2_pc 6 (.bi 5 (.col aN) (.col bN)) (.col bN)
  have e1 := evalX_pc abC abC_ok [numV a, numV b] (abC_fit a b) (.bi 5 (.col aN) (.col bN)) ⟨by unfold bi2; omega, oka, okb⟩ (by decide) (by decide)
  have e2 := evalX_pc abC abC_ok [numV a, numV b] (abC_fit a b) (.bi 6 (.bi 5 (.col aN) (.col bN)) (.col bN)) ⟨by unfold bi2; omega, ⟨by unfold bi2; omega, oka, okb⟩, okb⟩ (by decide) (by decide)
  have r1 : evF abC [numV a, numV b] (.bi 5 (.col aN) (.col bN)) = if addB a b = true then ⟨numV (w64 (a + b)), 0⟩ else .bad 6 := ev_bi (evA a b) (evB a b) rfl
  have hz := add_iff ha hb
  obtain ⟨A, hA⟩ : ∃ A, a / 2 = A := ⟨_, rfl⟩
  obtain ⟨B, hB⟩ : ∃ B, b / 2 = B := ⟨_, rfl⟩
  obtain ⟨C, hC⟩ : ∃ C, bitV .and .i64 (bitV .and .i64 a b) 1 = C := ⟨_, rfl⟩
  have hC2 := (low_bit a b).symm.trans hC
  unfold I64 at ha hb
  clear oka okb
  generalize (Ex.bi 6 (.bi 5 (.col aN) (.col bN)) (.col bN)).cs = x2 at *
  have hx1 : (Ex.bi 5 (.col aN) (.col bN)).cs = [iD 5, iD 0, iD 0, qD 0, strD .empty, strD .empty, .sl 7 [(Ex.col aN).cs, (Ex.col bN).cs]] := rfl
  by_cases hr : I64 (a + b)
  · rw [if_pos (hz.2 hr), w64_of hr] at r1
    have r2 : evF abC [numV a, numV b] (.bi 6 (.bi 5 (.col aN) (.col bN)) (.col bN)) = if subB (a + b) b = true then ⟨numV (w64 (a + b - b)), 0⟩ else .bad 6 := ev_bi r1 (evB a b) rfl
    rw [if_pos ((sub_iff hr hb).2 (by unfold I64; omega)), show a + b - b = a by omega, w64_of ha] at r2
    rw [r1] at e1
    rw [r2] at e2
    have hh : -4611686018427387904 ≤ A + B + C ∧ A + B + C < 4611686018427387904 := by
      unfold I64 at hr
      split at hC2 <;> omega
    have hc1 : 0 ≤ C ∧ C ≤ 1 := by split at hC2 <;> omega
    unfold I64 at hr
    unfold tvD Vl.cs at *
    dsimp only at *
    clear r1 r2 hz hC2
    refine pc_of_aw Tryd.func7 rfl (by kernel_rfl) mixed (by kernel_rfl) (by rw [Tryd.ntmps7]; exact Nat.le_of_ble_eq_true rfl) Tryd.results7 ?_
    repeat (first | (with_reducible first | apply aw_seq | apply aw_reg | apply rp_nil | apply ae_norm) | ((first | (with_reducible apply rp) | ((with_reducible apply rpG); exact rfl; exact gval_t rfl; (focus repeat' (first | exact trivial | exact fun h => h | refine And.intro ?_ ?_)); intro hgd; have hgd0 := hgd; (try simp only [decide_eq_true_eq, Bool.and_eq_true, Bool.not_eq_true', beq_iff_eq] at hgd))); first | ((with_reducible apply does_call'); exact rfl; exact rfl; exact rfl; exact (i1)) | ((with_reducible apply does_call'); exact rfl; exact rfl; exact rfl; exact (ca)) | ((with_reducible apply does_call'); exact rfl; exact rfl; exact rfl; exact (cb)) | ((with_reducible apply does_call'); exact rfl; exact rfl; exact rfl; exact (q1)) | ((with_reducible apply does_call'); exact rfl; exact rfl; exact rfl; exact (q2)) | ((with_reducible apply does_call_flat); exact rfl; exact rfl; exact (e1); exact rfl) | ((with_reducible apply does_call_flat); exact rfl; exact rfl; exact (e2); exact rfl) | (exact does_shr1 rfl rfl hA) | (exact does_shr1 rfl rfl hB) | (exact does_int_to (z := iD C) rfl rfl trivial (congrArg (fun z => D.sc (.int .i64 z)) hC)) | (exact does_add_to (z := A + B) rfl rfl rfl (by omega) (by omega)) | (exact does_add_to (z := A + B + C) rfl rfl rfl (by omega) (by omega)) | ((with_reducible apply does_move); (conv => lhs; whnf)) | ((with_reducible apply does_assign); (conv => lhs; whnf)) | ((with_reducible apply does_and); exact rfl; exact rfl; exact rfl; exact fun h => h) | ((with_reducible apply does_lt); exact rfl; exact rfl) | ((with_reducible apply does_ge); exact rfl; exact rfl) | ((with_reducible apply does_not); exact rfl) | ((with_reducible apply does_band); exact rfl; exact rfl) | ((with_reducible apply does_extract); exact rfl; exact rfl)) | ((with_reducible apply rp1); ((with_reducible apply does_alloc); exact tyOk rfl; exact rfl)) | ((with_reducible apply rpN); ((with_reducible apply does_store_whole); exact tyOk rfl; exact rfl; exact rfl; exact rfl; exact rfl; exact rfl)))
    refine aw_cond rfl (fun hd => ?_) (fun hd => ?_)
    · exfalso
      simp at hd
      omega
    clear hd
    repeat (first | (with_reducible first | apply aw_seq | apply aw_reg | apply rp_nil | apply ae_norm | apply aw_ret | apply re_ret | apply aw_skip) | ((first | (with_reducible apply rp) | ((with_reducible apply rpG); exact rfl; exact gval_t rfl; (focus repeat' (first | exact trivial | exact fun h => h | refine And.intro ?_ ?_)); intro hgd; have hgd0 := hgd; (try simp only [decide_eq_true_eq, Bool.and_eq_true, Bool.not_eq_true', beq_iff_eq] at hgd))); first | ((with_reducible apply does_move); (conv => lhs; whnf)) | ((with_reducible apply does_assign); (conv => lhs; whnf)) | ((with_reducible apply does_and); exact rfl; exact rfl; exact rfl; exact fun h => h) | ((with_reducible apply does_load_row); exact tyOk rfl; exact rfl; exact rfl; exact rfl; exact Nat.le_of_ble_eq_true rfl; exact rfl) | ((with_reducible apply does_eq); exact rfl; exact rfl) | ((with_reducible apply does_add); exact rfl; exact rfl; omega; omega) | ((with_reducible apply does_eqS); exact rfl; exact rfl; exact tgOk rfl; exact rfl) | ((with_reducible apply does_build); exact tyOk rfl; exact rfl; exact rfl; (focus repeat' (first | exact rfl | refine ⟨_, _, rfl, rfl, Nat.le_of_ble_eq_true rfl, rfl, ?_⟩)); exact rfl)))
    (with_reducible apply ret_ok); (focus (repeat' (first | (with_reducible apply rv_nil) | (with_reducible apply rv_cons) | ((with_reducible apply rv_tmp); exact rfl)))); exact rfl; refine SubD.of_eq ?_
    simp
    rfl
  · rw [if_neg (fun h => hr (hz.1 h))] at r1
    have r2 : evF abC [numV a, numV b] (.bi 6 (.bi 5 (.col aN) (.col bN)) (.col bN)) = .bad 6 := ev_bi_bad r1 (by decide)
    rw [r1] at e1
    rw [r2] at e2
    have hh : ¬ (-4611686018427387904 ≤ A + B + C ∧ A + B + C < 4611686018427387904) := by
      unfold I64 at hr
      split at hC2 <;> omega
    have hc1 : 0 ≤ C ∧ C ≤ 1 := by split at hC2 <;> omega
    unfold tvD Vl.cs at *
    dsimp only at *
    clear r1 r2 hz hC2 hr
    refine pc_of_aw Tryd.func7 rfl (by kernel_rfl) mixed (by kernel_rfl) (by rw [Tryd.ntmps7]; exact Nat.le_of_ble_eq_true rfl) Tryd.results7 ?_
    repeat (first | (with_reducible first | apply aw_seq | apply aw_reg | apply rp_nil | apply ae_norm) | ((first | (with_reducible apply rp) | ((with_reducible apply rpG); exact rfl; exact gval_t rfl; (focus repeat' (first | exact trivial | exact fun h => h | refine And.intro ?_ ?_)); intro hgd; have hgd0 := hgd; (try simp only [decide_eq_true_eq, Bool.and_eq_true, Bool.not_eq_true', beq_iff_eq] at hgd))); first | ((with_reducible apply does_call'); exact rfl; exact rfl; exact rfl; exact (i1)) | ((with_reducible apply does_call'); exact rfl; exact rfl; exact rfl; exact (ca)) | ((with_reducible apply does_call'); exact rfl; exact rfl; exact rfl; exact (cb)) | ((with_reducible apply does_call'); exact rfl; exact rfl; exact rfl; exact (q1)) | ((with_reducible apply does_call'); exact rfl; exact rfl; exact rfl; exact (q2)) | ((with_reducible apply does_call_flat); exact rfl; exact rfl; exact (e1); exact rfl) | ((with_reducible apply does_call_flat); exact rfl; exact rfl; exact (e2); exact rfl) | (exact does_shr1 rfl rfl hA) | (exact does_shr1 rfl rfl hB) | (exact does_int_to (z := iD C) rfl rfl trivial (congrArg (fun z => D.sc (.int .i64 z)) hC)) | (exact does_add_to (z := A + B) rfl rfl rfl (by omega) (by omega)) | (exact does_add_to (z := A + B + C) rfl rfl rfl (by omega) (by omega)) | ((with_reducible apply does_move); (conv => lhs; whnf)) | ((with_reducible apply does_assign); (conv => lhs; whnf)) | ((with_reducible apply does_and); exact rfl; exact rfl; exact rfl; exact fun h => h) | ((with_reducible apply does_lt); exact rfl; exact rfl) | ((with_reducible apply does_ge); exact rfl; exact rfl) | ((with_reducible apply does_not); exact rfl) | ((with_reducible apply does_band); exact rfl; exact rfl) | ((with_reducible apply does_extract); exact rfl; exact rfl)) | ((with_reducible apply rp1); ((with_reducible apply does_alloc); exact tyOk rfl; exact rfl)) | ((with_reducible apply rpN); ((with_reducible apply does_store_whole); exact tyOk rfl; exact rfl; exact rfl; exact rfl; exact rfl; exact rfl)))
    refine aw_cond rfl (fun hd => ?_) (fun hd => ?_)
    · clear hd
      repeat (first | (with_reducible first | apply aw_seq | apply aw_reg | apply rp_nil | apply ae_norm | apply aw_ret | apply ae_ret | apply re_ret) | ((first | (with_reducible apply rp) | ((with_reducible apply rpG); exact rfl; exact gval_t rfl; (focus repeat' (first | exact trivial | exact fun h => h | refine And.intro ?_ ?_)); intro hgd; have hgd0 := hgd; (try simp only [decide_eq_true_eq, Bool.and_eq_true, Bool.not_eq_true', beq_iff_eq] at hgd))); first | ((with_reducible apply does_move); (conv => lhs; whnf)) | ((with_reducible apply does_assign); (conv => lhs; whnf)) | ((with_reducible apply does_and); exact rfl; exact rfl; exact rfl; exact fun h => h) | ((with_reducible apply does_eq); exact rfl; exact rfl)))
      (with_reducible apply ret_ok); (focus (repeat' (first | (with_reducible apply rv_nil) | (with_reducible apply rv_cons) | ((with_reducible apply rv_tmp); exact rfl)))); exact rfl; refine SubD.of_eq ?_
      rfl
    · exfalso
      simp at hd
      omega
theorem evalSums_walk (a b : Int) (w : World) (ha : I64 a) (hb : I64 b) (hg : GlOk (Lt w) w) : Calls Tryd.prog 7 #[.int .i64 a, .int .i64 b] w fun e w' => e = .returned (.bool true) ∧ Below w.heap.size w w' :=
  calls_of_pc (evalSums_pc a b ha hb) (rep_cons (rep_int w a) (rep_cons (rep_int w b) rfl)) hg
end Go.Proofs.YtnkpnnphmimagaaDoor

