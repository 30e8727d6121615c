/-
  SpanTight: of comparisons alone the range is just what is said. No condition.
-/
import Derived.Test.YtpaccaojgbfjdaaDoorZSpan
namespace Go.Proofs.YtpaccaojgbfjdaaDoor
set_option linter.unusedSimpArgs false
set_option linter.unusedVariables false
open Go.RowKit
open Go.Lib

abbrev bolV (b : Bool) : Vl := ⟨1, if b = true then 1 else 0, 0, .empty⟩
abbrev opL : List Nat := [0, 2, 3, 4, 5]
def boundO (r : Raw) : Nat := 9 + opL.getD (r.kind % 5).toNat 0
def boundZ (r : Raw) : Ex := if r.b % 3 = 0 then .un 3 (.lit (numV ((r.a % 30).toNat : Int))) else .lit (numV ((r.a % 30).toNat : Int))
def boundX (r : Raw) : Ex := if r.b % 2 = 0 then .bi (boundO r) (.col aN) (boundZ r) else .bi (boundO r) (boundZ r) (.col aN)
theorem lit_evN {cols : List Cl} {row : List Vl} {v : Vl} : evF cols row (.lit v) = ⟨v, 0⟩ := rfl
theorem pkn (n : Int) (m : Nat) (hm : 0 < m) (hm2 : m ≤ 4611686018427387904) : PC Tryd.prog 10 [iD n, iD m] (iD (((n % (m : Int)).toNat : Nat) : Int)) := by
  have h1 := emod_in n m (by omega)
  have := picked_pc n m hm hm2
  rwa [show (((n % (m : Int)).toNat : Nat) : Int) = n % m by omega]
set_option maxHeartbeats 4000000 in
theorem bound_pc (r : Raw) : PC Tryd.prog 22 [.ag r.cs] (.ag (boundX r).cs) := by
  have p30 : PC Tryd.prog 10 [iD r.a, iD 30] (iD (((r.a % 30).toNat : Nat) : Int)) := pkn r.a 30 (by omega) (by omega)
  have p3 : PC Tryd.prog 10 [iD r.b, iD 3] (iD (((r.b % 3).toNat : Nat) : Int)) := pkn r.b 3 (by omega) (by omega)
  have p5 : PC Tryd.prog 10 [iD r.kind, iD 5] (iD (((r.kind % 5).toNat : Nat) : Int)) := pkn r.kind 5 (by omega) (by omega)
  have p2 : PC Tryd.prog 10 [iD r.b, iD 2] (iD (((r.b % 2).toNat : Nat) : Int)) := pkn r.b 2 (by omega) (by omega)
  have ca := colA_pc
  have n1 := number_pc (((r.a % 30).toNat : Nat) : Int)
  have m1 := op1_pc 3 (.lit (numV ((r.a % 30).toNat : Int)))
  have o1 := op2_pc (boundO r) (.col aN) (boundZ r)
  have o2 := op2_pc (boundO r) (boundZ r) (.col aN)
  have h5 : (r.kind % 5).toNat < 5 := by omega
  have b3 : (((r.b % 3).toNat : Nat) : Int) = r.b % 3 := by omega
  have b2 : (((r.b % 2).toNat : Nat) : Int) = r.b % 2 := by omega
  obtain ⟨q, hq, hgq, hO⟩ : ∃ q : Nat, q ≤ 5 ∧ [[iD 0], [iD 2], [iD 3], [iD 4], [iD 5]][(r.kind % 5).toNat]? = some [iD q] ∧ boundO r = 9 + q := by
    unfold boundO
    generalize (r.kind % 5).toNat = k at h5
    rcases (by omega : k = 0 ∨ k = 1 ∨ k = 2 ∨ k = 3 ∨ k = 4) with rfl | rfl | rfl | rfl | rfl
    · exact ⟨0, by omega, rfl, rfl⟩
    · exact ⟨2, by omega, rfl, rfl⟩
    · exact ⟨3, by omega, rfl, rfl⟩
    · exact ⟨4, by omega, rfl, rfl⟩
    · exact ⟨5, by omega, rfl, rfl⟩
  unfold boundX
  unfold boundZ at *
  rw [hO] at o1 o2 ⊢
  obtain ⟨o, ho⟩ : ∃ o, 9 + q = o := ⟨_, rfl⟩
  rw [ho] at o1 o2 ⊢
  generalize (r.kind % 5).toNat = k5 at *
  generalize (r.b % 3).toNat = k3 at *
  generalize (r.b % 2).toNat = k2 at *
  generalize (r.a % 30).toNat = u at *
  have hcl := (Ex.lit (numV (u : Int))).cs_eq
  have hclu : (Ex.un 3 (.lit (numV (u : Int)))).cs = [iD 3, iD 0, iD 0, qD 0, strD .empty, strD .empty, .sl 7 [(Ex.lit (numV (u : Int))).cs]] := rfl
  have hla : (Ex.lit (numV (u : Int))).cs = [iD 1, iD 2, iD u, qD 0, strD .empty, strD .empty, .sl 7 []] := rfl
  have hca : (Ex.col aN).cs = [iD 2, iD 0, iD 0, qD 0, strD .empty, strD aN, .sl 7 []] := rfl
  clear hcl
  by_cases h3 : r.b % 3 = 0
  · have c3 : ((k3 : Int) == 0) = true := beq_iff_eq.2 (by omega)
    simp only [if_pos h3] at o1 o2 ⊢
    by_cases h2 : r.b % 2 = 0
    · have c2 : ((k2 : Int) == 0) = true := beq_iff_eq.2 (by omega)
      rw [if_pos h2]
      clear o2 b3 b2 h3 h2
      have hRl := (Ex.bi o (.col aN) (.un 3 (.lit (numV (u : Int))))).cs_eq
      generalize (Ex.bi o (.col aN) (.un 3 (.lit (numV (u : Int))))).cs = R at *
      subst hRl
      rw [hclu, hla] at o1 m1
      rw [hla] at n1
      rw [hca] at o1 ca
      obtain ⟨rk, ra, rb, rt⟩ := r
      unfold Raw.cs
      dsimp only at *
      refine pc_of_aw Tryd.func22 rfl (by kernel_rfl) mixed (by kernel_rfl) (by rw [Tryd.ntmps22]; exact Nat.le_of_ble_eq_true rfl) Tryd.results22 ?_
      repeat (first | (with_reducible first | apply aw_seq | apply aw_reg | apply rp_nil | apply ae_norm) | ((with_reducible apply rp); first | ((with_reducible apply does_call_flat); exact rfl; exact rfl; exact (p30); exact rfl) | ((with_reducible apply does_call'); exact rfl; exact rfl; exact rfl; exact (n1)) | ((with_reducible apply does_call_flat); exact rfl; exact rfl; exact (p3); exact rfl) | ((with_reducible apply does_move); (conv => lhs; whnf)) | ((with_reducible apply does_assign); (conv => lhs; whnf)) | ((with_reducible apply does_fieldAddr); exact tyOk rfl; exact rfl; exact rfl; decide; exact rfl) | ((with_reducible apply does_load_var); exact tyOk rfl; exact rfl; exact rfl; exact rfl; exact rfl) | ((with_reducible apply does_eq); exact rfl; exact rfl)) | ((with_reducible apply rp1); first | ((with_reducible apply does_box_ag); exact rfl; exact rfl) | ((with_reducible apply does_alloc); exact tyOk rfl; exact rfl)) | ((with_reducible apply rpN); ((with_reducible apply does_store_whole); exact tyOk rfl; exact rfl; exact rfl; exact rfl; exact rfl; exact rfl)))
      refine aw_cond rfl (fun _ => ?_) (fun hd => absurd (c3.symm.trans hd) (by decide))
      repeat (first | (with_reducible first | apply aw_seq | apply aw_reg | apply rp_nil | apply ae_norm) | ((with_reducible apply rp); first | ((with_reducible apply does_call'); exact rfl; exact rfl; exact rfl; exact (m1)) | ((with_reducible apply does_call_flat); exact rfl; exact rfl; exact (p5); exact rfl) | (exact does_add_to (z := (o : Int)) rfl rfl (by omega) (by omega) (by omega)) | ((with_reducible apply does_call_flat); exact rfl; exact rfl; exact (p2); exact rfl) | ((with_reducible apply does_assign); (conv => lhs; whnf)) | ((with_reducible apply does_fieldAddr); exact tyOk rfl; exact rfl; exact rfl; decide; exact rfl) | ((with_reducible apply does_load_var); exact tyOk rfl; exact rfl; exact rfl; exact rfl; exact rfl) | ((with_reducible apply does_load_own); exact tyOk rfl; exact rfl; exact rfl; exact rfl; assumption; exact rfl) | ((with_reducible apply does_load_row); exact tyOk rfl; exact rfl; exact rfl; exact rfl; exact Nat.le_of_ble_eq_true rfl; exact rfl) | ((with_reducible apply does_index_own); exact tyOk rfl; exact rfl; exact tyOk rfl; exact rfl; exact rfl; exact rfl; omega) | ((with_reducible apply does_eq); exact rfl; exact rfl)) | ((with_reducible apply rp1); ((with_reducible apply does_buildSlice); exact tyOk rfl; exact rfl; exact tyOk rfl; exact rfl; exact rfl; (focus repeat' (first | exact trivial | refine And.intro rfl (And.intro rfl ?_))); decide; decide; exact rfl)) | ((with_reducible apply rpN); ((with_reducible apply does_store_whole); exact tyOk rfl; exact rfl; exact rfl; exact rfl; exact rfl; exact rfl)))
      refine aw_cond rfl (fun _ => ?_) (fun hd => absurd (c2.symm.trans hd) (by decide))
      repeat (first | (with_reducible first | apply aw_seq | apply ae_norm | apply aw_regD | apply aw_ret | apply ae_ret | apply re_ret) | ((with_reducible apply dr_nil); (first | kernel_rfl | exact rfl)) | ((with_reducible apply dr); first | ((with_reducible apply does_call'); exact rfl; exact rfl; exact rfl; exact (ca)) | ((with_reducible apply does_call'); exact rfl; exact rfl; exact rfl; exact (o1)) | ((with_reducible apply does_move); (conv => lhs; whnf)) | ((with_reducible apply does_load_row); exact tyOk rfl; exact rfl; exact rfl; exact rfl; exact Nat.le_of_ble_eq_true rfl; exact rfl)) | ((with_reducible apply drN); ((with_reducible apply does_store_whole); exact tyOk rfl; exact rfl; exact rfl; exact rfl; exact rfl; exact rfl)))
      (with_reducible apply ret_ok); (focus (repeat' (first | (with_reducible apply rv_nil) | (with_reducible apply rv_cons) | ((with_reducible apply rv_rowd); exact rfl; exact rfl; exact tyOk rfl; exact rfl; exact rfl)))); exact rfl; refine SubD.of_eq ?_
      rfl
    · have c2 : ((k2 : Int) == 0) = false := beq_eq_false_iff_ne.2 (by omega)
      rw [if_neg h2]
      clear o1 b3 b2 h3 h2
      have hRl := (Ex.bi o (.un 3 (.lit (numV (u : Int)))) (.col aN)).cs_eq
      generalize (Ex.bi o (.un 3 (.lit (numV (u : Int)))) (.col aN)).cs = R at *
      subst hRl
      rw [hclu, hla] at o2 m1
      rw [hla] at n1
      rw [hca] at o2 ca
      obtain ⟨rk, ra, rb, rt⟩ := r
      unfold Raw.cs
      dsimp only at *
      refine pc_of_aw Tryd.func22 rfl (by kernel_rfl) mixed (by kernel_rfl) (by rw [Tryd.ntmps22]; exact Nat.le_of_ble_eq_true rfl) Tryd.results22 ?_
      repeat (first | (with_reducible first | apply aw_seq | apply aw_reg | apply rp_nil | apply ae_norm) | ((with_reducible apply rp); first | ((with_reducible apply does_call_flat); exact rfl; exact rfl; exact (p30); exact rfl) | ((with_reducible apply does_call'); exact rfl; exact rfl; exact rfl; exact (n1)) | ((with_reducible apply does_call_flat); exact rfl; exact rfl; exact (p3); exact rfl) | ((with_reducible apply does_move); (conv => lhs; whnf)) | ((with_reducible apply does_assign); (conv => lhs; whnf)) | ((with_reducible apply does_fieldAddr); exact tyOk rfl; exact rfl; exact rfl; decide; exact rfl) | ((with_reducible apply does_load_var); exact tyOk rfl; exact rfl; exact rfl; exact rfl; exact rfl) | ((with_reducible apply does_eq); exact rfl; exact rfl)) | ((with_reducible apply rp1); first | ((with_reducible apply does_box_ag); exact rfl; exact rfl) | ((with_reducible apply does_alloc); exact tyOk rfl; exact rfl)) | ((with_reducible apply rpN); ((with_reducible apply does_store_whole); exact tyOk rfl; exact rfl; exact rfl; exact rfl; exact rfl; exact rfl)))
      refine aw_cond rfl (fun _ => ?_) (fun hd => absurd (c3.symm.trans hd) (by decide))
      repeat (first | (with_reducible first | apply aw_seq | apply aw_reg | apply rp_nil | apply ae_norm) | ((with_reducible apply rp); first | ((with_reducible apply does_call'); exact rfl; exact rfl; exact rfl; exact (m1)) | ((with_reducible apply does_call_flat); exact rfl; exact rfl; exact (p5); exact rfl) | (exact does_add_to (z := (o : Int)) rfl rfl (by omega) (by omega) (by omega)) | ((with_reducible apply does_call_flat); exact rfl; exact rfl; exact (p2); exact rfl) | ((with_reducible apply does_assign); (conv => lhs; whnf)) | ((with_reducible apply does_fieldAddr); exact tyOk rfl; exact rfl; exact rfl; decide; exact rfl) | ((with_reducible apply does_load_var); exact tyOk rfl; exact rfl; exact rfl; exact rfl; exact rfl) | ((with_reducible apply does_load_own); exact tyOk rfl; exact rfl; exact rfl; exact rfl; assumption; exact rfl) | ((with_reducible apply does_load_row); exact tyOk rfl; exact rfl; exact rfl; exact rfl; exact Nat.le_of_ble_eq_true rfl; exact rfl) | ((with_reducible apply does_index_own); exact tyOk rfl; exact rfl; exact tyOk rfl; exact rfl; exact rfl; exact rfl; omega) | ((with_reducible apply does_eq); exact rfl; exact rfl)) | ((with_reducible apply rp1); ((with_reducible apply does_buildSlice); exact tyOk rfl; exact rfl; exact tyOk rfl; exact rfl; exact rfl; (focus repeat' (first | exact trivial | refine And.intro rfl (And.intro rfl ?_))); decide; decide; exact rfl)) | ((with_reducible apply rpN); ((with_reducible apply does_store_whole); exact tyOk rfl; exact rfl; exact rfl; exact rfl; exact rfl; exact rfl)))
      refine aw_cond rfl (fun hd => absurd (c2.symm.trans hd) (by decide)) (fun _ => ?_)
      repeat (first | (with_reducible first | apply aw_seq | apply ae_norm | apply aw_regD | apply aw_ret | apply re_ret | apply aw_skip) | ((with_reducible apply dr_nil); (first | kernel_rfl | exact rfl)) | ((with_reducible apply dr); first | ((with_reducible apply does_call'); exact rfl; exact rfl; exact rfl; exact (ca)) | ((with_reducible apply does_call'); exact rfl; exact rfl; exact rfl; exact (o2)) | ((with_reducible apply does_move); (conv => lhs; whnf)) | ((with_reducible apply does_load_row); exact tyOk rfl; exact rfl; exact rfl; exact rfl; exact Nat.le_of_ble_eq_true rfl; exact rfl)) | ((with_reducible apply drN); ((with_reducible apply does_store_whole); exact tyOk rfl; exact rfl; exact rfl; exact rfl; exact rfl; exact rfl)))
      (with_reducible apply ret_ok); (focus (repeat' (first | (with_reducible apply rv_nil) | (with_reducible apply rv_cons) | ((with_reducible apply rv_rowd); exact rfl; exact rfl; exact tyOk rfl; exact rfl; exact rfl)))); exact rfl; refine SubD.of_eq ?_
      rfl
  · have c3 : ((k3 : Int) == 0) = false := beq_eq_false_iff_ne.2 (by omega)
    simp only [if_neg h3] at o1 o2 ⊢
    by_cases h2 : r.b % 2 = 0
    · have c2 : ((k2 : Int) == 0) = true := beq_iff_eq.2 (by omega)
      rw [if_pos h2]
      clear o2 b3 b2 h3 h2
      have hRl := (Ex.bi o (.col aN) (.lit (numV (u : Int)))).cs_eq
      generalize (Ex.bi o (.col aN) (.lit (numV (u : Int)))).cs = R at *
      subst hRl
      rw [hla] at o1
      clear m1
      rw [hla] at n1
      rw [hca] at o1 ca
      obtain ⟨rk, ra, rb, rt⟩ := r
      unfold Raw.cs
      dsimp only at *
      refine pc_of_aw Tryd.func22 rfl (by kernel_rfl) mixed (by kernel_rfl) (by rw [Tryd.ntmps22]; exact Nat.le_of_ble_eq_true rfl) Tryd.results22 ?_
      repeat (first | (with_reducible first | apply aw_seq | apply aw_reg | apply rp_nil | apply ae_norm) | ((with_reducible apply rp); first | ((with_reducible apply does_call_flat); exact rfl; exact rfl; exact (p30); exact rfl) | ((with_reducible apply does_call'); exact rfl; exact rfl; exact rfl; exact (n1)) | ((with_reducible apply does_call_flat); exact rfl; exact rfl; exact (p3); exact rfl) | ((with_reducible apply does_move); (conv => lhs; whnf)) | ((with_reducible apply does_assign); (conv => lhs; whnf)) | ((with_reducible apply does_fieldAddr); exact tyOk rfl; exact rfl; exact rfl; decide; exact rfl) | ((with_reducible apply does_load_var); exact tyOk rfl; exact rfl; exact rfl; exact rfl; exact rfl) | ((with_reducible apply does_eq); exact rfl; exact rfl)) | ((with_reducible apply rp1); first | ((with_reducible apply does_box_ag); exact rfl; exact rfl) | ((with_reducible apply does_alloc); exact tyOk rfl; exact rfl)) | ((with_reducible apply rpN); ((with_reducible apply does_store_whole); exact tyOk rfl; exact rfl; exact rfl; exact rfl; exact rfl; exact rfl)))
      refine aw_cond rfl (fun hd => absurd (c3.symm.trans hd) (by decide)) (fun _ => ?_)
      repeat (first | (with_reducible first | apply aw_seq | apply aw_reg | apply rp_nil | apply ae_norm | apply aw_skip) | ((with_reducible apply rp); first | ((with_reducible apply does_call_flat); exact rfl; exact rfl; exact (p5); exact rfl) | (exact does_add_to (z := (o : Int)) rfl rfl (by omega) (by omega) (by omega)) | ((with_reducible apply does_call_flat); exact rfl; exact rfl; exact (p2); exact rfl) | ((with_reducible apply does_assign); (conv => lhs; whnf)) | ((with_reducible apply does_fieldAddr); exact tyOk rfl; exact rfl; exact rfl; decide; exact rfl) | ((with_reducible apply does_load_var); exact tyOk rfl; exact rfl; exact rfl; exact rfl; exact rfl) | ((with_reducible apply does_load_own); exact tyOk rfl; exact rfl; exact rfl; exact rfl; assumption; exact rfl) | ((with_reducible apply does_index_own); exact tyOk rfl; exact rfl; exact tyOk rfl; exact rfl; exact rfl; exact rfl; omega) | ((with_reducible apply does_eq); exact rfl; exact rfl)) | ((with_reducible apply rp1); ((with_reducible apply does_buildSlice); exact tyOk rfl; exact rfl; exact tyOk rfl; exact rfl; exact rfl; (focus repeat' (first | exact trivial | refine And.intro rfl (And.intro rfl ?_))); decide; decide; exact rfl)))
      refine aw_cond rfl (fun _ => ?_) (fun hd => absurd (c2.symm.trans hd) (by decide))
      repeat (first | (with_reducible first | apply aw_seq | apply ae_norm | apply aw_regD | apply aw_ret | apply ae_ret | apply re_ret) | ((with_reducible apply dr_nil); (first | kernel_rfl | exact rfl)) | ((with_reducible apply dr); first | ((with_reducible apply does_call'); exact rfl; exact rfl; exact rfl; exact (ca)) | ((with_reducible apply does_call'); exact rfl; exact rfl; exact rfl; exact (o1)) | ((with_reducible apply does_move); (conv => lhs; whnf)) | ((with_reducible apply does_load_row); exact tyOk rfl; exact rfl; exact rfl; exact rfl; exact Nat.le_of_ble_eq_true rfl; exact rfl)) | ((with_reducible apply drN); ((with_reducible apply does_store_whole); exact tyOk rfl; exact rfl; exact rfl; exact rfl; exact rfl; exact rfl)))
      (with_reducible apply ret_ok); (focus (repeat' (first | (with_reducible apply rv_nil) | (with_reducible apply rv_cons) | ((with_reducible apply rv_rowd); exact rfl; exact rfl; exact tyOk rfl; exact rfl; exact rfl)))); exact rfl; refine SubD.of_eq ?_
      rfl
    · have c2 : ((k2 : Int) == 0) = false := beq_eq_false_iff_ne.2 (by omega)
      rw [if_neg h2]
      clear o1 b3 b2 h3 h2
      have hRl := (Ex.bi o (.lit (numV (u : Int))) (.col aN)).cs_eq
      generalize (Ex.bi o (.lit (numV (u : Int))) (.col aN)).cs = R at *
      subst hRl
      rw [hla] at o2
      clear m1
      rw [hla] at n1
      rw [hca] at o2 ca
      obtain ⟨rk, ra, rb, rt⟩ := r
      unfold Raw.cs
      dsimp only at *
      refine pc_of_aw Tryd.func22 rfl (by kernel_rfl) mixed (by kernel_rfl) (by rw [Tryd.ntmps22]; exact Nat.le_of_ble_eq_true rfl) Tryd.results22 ?_
      repeat (first | (with_reducible first | apply aw_seq | apply aw_reg | apply rp_nil | apply ae_norm) | ((with_reducible apply rp); first | ((with_reducible apply does_call_flat); exact rfl; exact rfl; exact (p30); exact rfl) | ((with_reducible apply does_call'); exact rfl; exact rfl; exact rfl; exact (n1)) | ((with_reducible apply does_call_flat); exact rfl; exact rfl; exact (p3); exact rfl) | ((with_reducible apply does_move); (conv => lhs; whnf)) | ((with_reducible apply does_assign); (conv => lhs; whnf)) | ((with_reducible apply does_fieldAddr); exact tyOk rfl; exact rfl; exact rfl; decide; exact rfl) | ((with_reducible apply does_load_var); exact tyOk rfl; exact rfl; exact rfl; exact rfl; exact rfl) | ((with_reducible apply does_eq); exact rfl; exact rfl)) | ((with_reducible apply rp1); first | ((with_reducible apply does_box_ag); exact rfl; exact rfl) | ((with_reducible apply does_alloc); exact tyOk rfl; exact rfl)) | ((with_reducible apply rpN); ((with_reducible apply does_store_whole); exact tyOk rfl; exact rfl; exact rfl; exact rfl; exact rfl; exact rfl)))
      refine aw_cond rfl (fun hd => absurd (c3.symm.trans hd) (by decide)) (fun _ => ?_)
      repeat (first | (with_reducible first | apply aw_seq | apply aw_reg | apply rp_nil | apply ae_norm | apply aw_skip) | ((with_reducible apply rp); first | ((with_reducible apply does_call_flat); exact rfl; exact rfl; exact (p5); exact rfl) | (exact does_add_to (z := (o : Int)) rfl rfl (by omega) (by omega) (by omega)) | ((with_reducible apply does_call_flat); exact rfl; exact rfl; exact (p2); exact rfl) | ((with_reducible apply does_assign); (conv => lhs; whnf)) | ((with_reducible apply does_fieldAddr); exact tyOk rfl; exact rfl; exact rfl; decide; exact rfl) | ((with_reducible apply does_load_var); exact tyOk rfl; exact rfl; exact rfl; exact rfl; exact rfl) | ((with_reducible apply does_load_own); exact tyOk rfl; exact rfl; exact rfl; exact rfl; assumption; exact rfl) | ((with_reducible apply does_index_own); exact tyOk rfl; exact rfl; exact tyOk rfl; exact rfl; exact rfl; exact rfl; omega) | ((with_reducible apply does_eq); exact rfl; exact rfl)) | ((with_reducible apply rp1); ((with_reducible apply does_buildSlice); exact tyOk rfl; exact rfl; exact tyOk rfl; exact rfl; exact rfl; (focus repeat' (first | exact trivial | refine And.intro rfl (And.intro rfl ?_))); decide; decide; exact rfl)))
      refine aw_cond rfl (fun hd => absurd (c2.symm.trans hd) (by decide)) (fun _ => ?_)
      repeat (first | (with_reducible first | apply aw_seq | apply ae_norm | apply aw_regD | apply aw_ret | apply re_ret | apply aw_skip) | ((with_reducible apply dr_nil); (first | kernel_rfl | exact rfl)) | ((with_reducible apply dr); first | ((with_reducible apply does_call'); exact rfl; exact rfl; exact rfl; exact (ca)) | ((with_reducible apply does_call'); exact rfl; exact rfl; exact rfl; exact (o2)) | ((with_reducible apply does_move); (conv => lhs; whnf)) | ((with_reducible apply does_load_row); exact tyOk rfl; exact rfl; exact rfl; exact rfl; exact Nat.le_of_ble_eq_true rfl; exact rfl)) | ((with_reducible apply drN); ((with_reducible apply does_store_whole); exact tyOk rfl; exact rfl; exact rfl; exact rfl; exact rfl; exact rfl)))
      (with_reducible apply ret_ok); (focus (repeat' (first | (with_reducible apply rv_nil) | (with_reducible apply rv_cons) | ((with_reducible apply rv_rowd); exact rfl; exact rfl; exact tyOk rfl; exact rfl; exact rfl)))); exact rfl; refine SubD.of_eq ?_
      rfl
/-! ### the law -/
def raw0 : Raw := ⟨0, 0, 0, .empty⟩
def andF : Ex → List Raw → Ex
  | x, [] => x
  | x, r :: l => andF (.bi 15 x (boundX r)) l
def andX : List Raw → Ex
  | [] => boundX raw0
  | r :: l => andF (boundX r) l
theorem andF_snoc : ∀ (l : List Raw) (x : Ex) (r : Raw), andF x (l ++ [r]) = .bi 15 (andF x l) (boundX r)
  | [], _, _ => rfl
  | q :: l, x, r => andF_snoc l _ r
theorem andX_snoc {l : List Raw} (h : l ≠ []) (r : Raw) : andX (l ++ [r]) = .bi 15 (andX l) (boundX r) := by
  cases l with
  | nil => exact absurd rfl h
  | cons q l => exact andF_snoc l _ r
theorem andX_ind {P : Ex → Prop} (h0 : ∀ r, P (boundX r)) (h1 : ∀ x r, P x → P (.bi 15 x (boundX r))) (l : List Raw) : P (andX l) := by
  have key : ∀ (l : List Raw) (x : Ex), P x → P (andF x l) := fun l => by
    induction l with
    | nil => exact fun x h => h
    | cons r l ih => exact fun x h => ih _ (h1 x r h)
  cases l with
  | nil => exact h0 _
  | cons r l => exact key l _ (h0 r)
theorem boundO_in (r : Raw) : boundO r = 9 ∨ boundO r = 11 ∨ boundO r = 12 ∨ boundO r = 13 ∨ boundO r = 14 := by
  unfold boundO
  have h5 : (r.kind % 5).toNat < 5 := by omega
  generalize (r.kind % 5).toNat = k at h5
  rcases (by omega : k = 0 ∨ k = 1 ∨ k = 2 ∨ k = 3 ∨ k = 4) with rfl | rfl | rfl | rfl | rfl <;> decide
theorem okA : (Ex.col aN).ok := by show NameOk aN; decide
theorem boundZ_ok (r : Raw) : (boundZ r).ok ∧ (boundZ r).i64 ∧ (boundZ r).deep ≤ 2 ∧ (boundZ r).num ≤ 2 := by
  unfold boundZ
  have h30 : (((r.a % 30).toNat : Nat) : Int) < 30 := by omega
  split
  · exact ⟨⟨.inl rfl, .int _, Int.natCast_nonneg _⟩, by show I64 _; unfold I64; dsimp only; omega, Nat.le_refl _, Nat.le_refl _⟩
  · exact ⟨⟨.int _, Int.natCast_nonneg _⟩, by show I64 _; unfold I64; dsimp only; omega, by show 1 ≤ 2; omega, by show 1 ≤ 2; omega⟩
theorem boundX_ok (r : Raw) : (boundX r).ok ∧ (boundX r).i64 ∧ (boundX r).deep ≤ 3 ∧ (boundX r).num ≤ 4 := by
  obtain ⟨h1, h2, h3, h4⟩ := boundZ_ok r
  have ho := boundO_in r
  unfold boundX
  split
  · exact ⟨⟨by unfold bi2; omega, okA, h1⟩, ⟨trivial, h2⟩, by simp only [Ex.deep]; omega, by simp only [Ex.num]; omega⟩
  · exact ⟨⟨by unfold bi2; omega, h1, okA⟩, ⟨h2, trivial⟩, by simp only [Ex.deep]; omega, by simp only [Ex.num]; omega⟩
theorem andX_ok (l : List Raw) : (andX l).ok ∧ (andX l).i64 := by
  refine andX_ind (P := fun x => x.ok ∧ x.i64) (fun r => ⟨(boundX_ok r).1, (boundX_ok r).2.1⟩) (fun x r h => ?_) l
  exact ⟨⟨by unfold bi2; omega, h.1, (boundX_ok r).1⟩, h.2, (boundX_ok r).2.1⟩
theorem andF_size : ∀ (l : List Raw) (x : Ex), (andF x l).deep ≤ max x.deep 3 + l.length ∧ (andF x l).num ≤ x.num + 5 * l.length
  | [], x => ⟨by show x.deep ≤ max x.deep 3 + 0; omega, Nat.le_refl _⟩
  | r :: l, x => by
    obtain ⟨h1, h2⟩ := andF_size l (.bi 15 x (boundX r))
    obtain ⟨_, _, h3, h4⟩ := boundX_ok r
    rw [List.length_cons]
    show (andF (.bi 15 x (boundX r)) l).deep ≤ _ ∧ (andF (.bi 15 x (boundX r)) l).num ≤ _
    simp only [Ex.deep, Ex.num] at h1 h2
    omega
theorem andX_size (l : List Raw) (h : l.length ≤ 5) : (andX l).deep ≤ 7 ∧ (andX l).num ≤ 40 := by
  cases l with
  | nil =>
    obtain ⟨_, _, h3, h4⟩ := boundX_ok raw0
    exact ⟨by show (boundX raw0).deep ≤ 7; omega, by show (boundX raw0).num ≤ 40; omega⟩
  | cons r l =>
    obtain ⟨h1, h2⟩ := andF_size l (boundX r)
    obtain ⟨_, _, h3, h4⟩ := boundX_ok r
    rw [List.length_cons] at h
    exact ⟨by show (andF (boundX r) l).deep ≤ 7; omega, by show (andF (boundX r) l).num ≤ 40; omega⟩
/-- What a comparison says is what its range is. -/
def Tight (k : Int) (cols : List Cl) (row : List Vl) (x : Ex) : Prop := ∃ t : Bool, evF cols row x = ⟨bolV t, 0⟩ ∧ (t = true ↔ (spanF aN x).1 ≤ k ∧ k ≤ (spanF aN x).2)
theorem boundZ_ev (r : Raw) (cols : List Cl) (row : List Vl) : ∃ z : Int, I64 z ∧ evF cols row (boundZ r) = ⟨numV z, 0⟩ ∧ litB (boundZ r) = true ∧ litN (boundZ r) = z := by
  unfold boundZ
  have h30 : (((r.a % 30).toNat : Nat) : Int) < 30 := by omega
  generalize (r.a % 30).toNat = u at h30
  split
  · refine ⟨w64 (0 - (u : Int)), ?_, ?_, rfl, rfl⟩
    · rw [w64_of (by unfold I64; omega)]
      unfold I64; omega
    · rw [evF, lit_evN]
      show (if (0 : Nat) = 0 then oneF 3 (numV (u : Int)) else _) = _
      rw [if_pos rfl]
      unfold oneF
      rw [if_neg (by decide), if_neg (by show ¬ (2 : Int) = 0; omega), if_neg (by decide), if_neg (by decide), if_pos rfl, if_neg (by show ¬ (u : Int) = _; omega)]
  · exact ⟨(u : Int), by unfold I64; omega, rfl, rfl, rfl⟩
theorem tight_bound {k : Int} (hk : I64 k) {cols : List Cl} {row : List Vl} (ha : evF cols row (.col aN) = ⟨numV k, 0⟩) (r : Raw) : Tight k cols row (boundX r) := by
  obtain ⟨z, hz, e1, l1, l2⟩ := boundZ_ev r cols row
  have ho := boundO_in r
  have hs : ∀ v, shortB (boundO r) v = false := fun v => by
    unfold shortB
    have h1 : (boundO r == 20) = false := beq_eq_false_iff_ne.2 (by omega)
    have h2 : (boundO r == 15) = false := beq_eq_false_iff_ne.2 (by omega)
    have h3 : (boundO r == 16) = false := beq_eq_false_iff_ne.2 (by omega)
    rw [h1, h2, h3]; rfl
  have two : ∀ x y : Int, twoF (boundO r) (numV x) (numV y) = ⟨bolV (cmpB (boundO r) x y), 0⟩ := fun x y => by
    unfold twoF
    rw [if_neg (by omega), if_neg (by omega), if_neg (by omega), if_neg (by omega), comp_int (by omega)]
  have ca : isCol aN (.col aN) = true := by unfold isCol; exact decide_eq_true rfl
  have cz : isCol aN (boundZ r) = false := by unfold boundZ; split <;> rfl
  unfold boundX
  split
  · refine ⟨cmpB (boundO r) k z, by rw [ev_bi ha e1 (hs _), two], ?_⟩
    have e2 : spanF aN (.bi (boundO r) (.col aN) (boundZ r)) = boundF (boundO r) z := by
      rw [spanF, if_neg (by omega), if_neg (by omega), if_pos (by rw [l1, ca]; rfl), l2]
    rw [e2]
    exact bound_iff ho hk hz
  · refine ⟨cmpB (boundO r) z k, by rw [ev_bi e1 ha (hs _), two], ?_⟩
    have e2 : spanF aN (.bi (boundO r) (boundZ r) (.col aN)) = boundF (turnF (boundO r)) z := by
      rw [spanF, if_neg (by omega), if_neg (by omega), if_neg (by rw [cz, Bool.and_false]; decide), if_pos (by rw [l1, ca]; rfl), l2]
    rw [e2, cmp_turn ho]
    exact bound_iff (turn_in ho) hk hz
theorem tight_and {k : Int} {cols : List Cl} {row : List Vl} {x y : Ex} (hx : Tight k cols row x) (hy : Tight k cols row y) : Tight k cols row (.bi 15 x y) := by
  obtain ⟨t, e1, i1⟩ := hx
  obtain ⟨t', e2, i2⟩ := hy
  refine ⟨t && t', ?_, ?_⟩
  · rw [evF, e1, e2]
    cases t <;> cases t' <;> rfl
  · rw [spanF, if_pos rfl, Bool.and_eq_true, i1, i2]
    dsimp only
    split <;> split <;> omega
theorem tight_all {k : Int} (hk : I64 k) {cols : List Cl} {row : List Vl} (ha : evF cols row (.col aN) = ⟨numV k, 0⟩) (l : List Raw) : Tight k cols row (andX l) :=
  andX_ind (tight_bound hk ha) (fun x r h => tight_and h (tight_bound hk ha r)) l
end Go.Proofs.YtpaccaojgbfjdaaDoor

