/-
  chirographkeep.real, ValOf, Val: what they make may be. No condition.
-/
import Derived.Test.YtlpnnnmdkglkcaaDoorZGood
namespace Go.Proofs.YtlpnnnmdkglkcaaDoor
set_option linter.unusedSimpArgs false
set_option linter.unusedVariables false
open Go.RowKit

section
variable {P : Program} {dst : Option Nat} {ty : TypeId} {e : Operand → A} {β : Bx} {T T' : TypeId} {x y : Operand}
theorem does_shr_q {m k z : Nat} {k' : IntKind} {n : Int} (hx : e x = .d (qD m)) (hy : e y = .d (.sc (.int k' n))) (hn : n = (k : Nat)) (hk : k ≤ 64) (hz : m / 2 ^ k = z) : Does P dst (.binOp .shr T x y T') ty e β (.d (qD z)) [] [] := by
  subst hn hz
  have h := does_shr (P := P) (dst := dst) (ty := ty) (β := β) (T := T) (T' := T') hx hy (by omega)
  have e1 : min (Int.toNat ((k : Nat) : Int)) IntKind.u64.bits = k := by show min k 64 = k; omega
  have e2 : Int.fdiv (m : Int) (2 ^ k) = ((m / 2 ^ k : Nat) : Int) := by
    have h2 : (2 : Int) ^ k = ((2 ^ k : Nat) : Int) := by simp
    rw [h2, Int.fdiv_eq_ediv_of_nonneg _ (Int.natCast_nonneg _)]
    rfl
  rwa [e1, e2] at h
end
theorem real_mask {n : Nat} (hn : n < 18446744073709551616) (h : n / 4503599627370496 % 2048 = 2047) : (n ^^^ 4611686018427387904) / 4503599627370496 % 2048 = 1023 := by
  have e1 : (n ^^^ 4611686018427387904) / 4503599627370496 = (n / 4503599627370496) ^^^ 1024 := by
    have h1 := Nat.shiftRight_xor_distrib (a := n) (b := 4611686018427387904) (i := 52)
    rw [Nat.shiftRight_eq_div_pow, Nat.shiftRight_eq_div_pow, Nat.shiftRight_eq_div_pow] at h1
    exact h1
  rw [e1]
  rcases (by omega : n / 4503599627370496 = 2047 ∨ n / 4503599627370496 = 4095) with h | h <;> (rw [h]; decide)
set_option maxHeartbeats 1000000 in
theorem real_pc (a b : Int) : ∃ n : Nat, n < 18446744073709551616 ∧ finF n ∧ n ≠ 9223372036854775808 ∧ PC Tryd.prog 39 [iD a, iD b] (qD n) := by
  obtain ⟨x, hx, ex⟩ := u64_nat (IntKind.u64.wrap a * 2 ^ (min (Int.toNat 40) IntKind.u64.bits))
  obtain ⟨y, hy, ey⟩ := u64_nat b
  obtain ⟨n, hn⟩ : ∃ n, x ^^^ y = n := ⟨_, rfl⟩
  obtain ⟨hn0, hnl⟩ := xor_nat x y hx hy
  rw [hn] at hn0 hnl
  rw [← ex, ← ey] at hn0
  have h2047 : bitV .and .u64 ((n / 4503599627370496 : Nat) : Int) 2047 = ((n / 4503599627370496 % 2048 : Nat) : Int) := by
    have h := and_nat (n / 4503599627370496) 2047 (by omega) (by omega)
    have h2 : n / 4503599627370496 &&& 2047 = n / 4503599627370496 % 2048 := Nat.and_two_pow_sub_one_eq_mod _ 11
    rw [h2] at h
    exact h
  have key : ∀ n2 : Nat, n2 < 18446744073709551616 → finF n2 → ∃ n3 : Nat, n3 < 18446744073709551616 ∧ finF n3 ∧ n3 ≠ 9223372036854775808 ∧ ((((n2 : Nat) : Int) == 9223372036854775808) = true → n3 = 0) ∧ ((((n2 : Nat) : Int) == 9223372036854775808) = false → n3 = n2) := fun n2 h1 h2 => by
    by_cases hz : n2 = 9223372036854775808
    · exact ⟨0, by omega, by unfold finF rung; omega, by omega, fun _ => rfl, fun h => by rw [hz] at h; cases h⟩
    · exact ⟨n2, h1, h2, hz, fun h => by exfalso; apply hz; have := eq_of_beq h; omega, fun _ => rfl⟩
  by_cases hm : n / 4503599627370496 % 2048 = 2047
  · obtain ⟨xn, hxl⟩ := xor_nat n 4611686018427387904 hnl (by omega)
    have hmk := real_mask hnl hm
    obtain ⟨n2, hn2⟩ : ∃ n2, n ^^^ 4611686018427387904 = n2 := ⟨_, rfl⟩
    rw [hn2] at xn hxl hmk
    obtain ⟨n3, k1, k2, k3, k4, k5⟩ := key n2 hxl (by unfold finF rung; omega)
    have hcm : (((n / 4503599627370496 % 2048 : Nat) : Int) == 2047) = true := by rw [hm]; rfl
    refine ⟨n3, k1, k2, k3, ?_⟩
    refine pc_of_aw Tryd.func39 rfl (by kernel_rfl) mixed (by kernel_rfl) (by rw [Tryd.ntmps39]; exact Nat.le_of_ble_eq_true rfl) Tryd.results39 ?_
    repeat (first | (with_reducible first | apply aw_seq | apply aw_reg | apply rp_nil | apply ae_norm) | ((with_reducible apply rp); first | (exact does_int_to (z := qD n) rfl rfl trivial (congrArg (fun z => D.sc (.int .u64 z)) hn0)) | (exact does_shr_q (m := n) (k := 52) (z := n / 4503599627370496) rfl rfl rfl (by omega) rfl) | (exact does_int_to (z := qD (n / 4503599627370496 % 2048)) rfl rfl trivial (congrArg (fun z => D.sc (.int .u64 z)) h2047)) | ((with_reducible apply does_move); (conv => lhs; whnf)) | ((with_reducible apply does_assign); (conv => lhs; whnf)) | ((with_reducible apply does_eq); exact rfl; exact rfl) | ((with_reducible apply does_shl); exact rfl; exact rfl; omega) | ((with_reducible apply does_conv_int); exact tyOk rfl; exact tyOk rfl; exact rfl; exact rfl)))
    refine aw_cond rfl (fun _ => ?_) (fun hc => absurd (hcm.symm.trans hc) (by decide))
    repeat (first | (with_reducible first | apply aw_seq | apply aw_reg | apply rp_nil | apply ae_norm) | ((with_reducible apply rp); first | (exact does_int_to (z := qD n2) rfl rfl trivial (congrArg (fun z => D.sc (.int .u64 z)) xn)) | ((with_reducible apply does_move); (conv => lhs; whnf)) | ((with_reducible apply does_assign); (conv => lhs; whnf)) | ((with_reducible apply does_eq); exact rfl; exact rfl)))
    refine aw_cond rfl (fun hc => ?_) (fun hc => ?_)
    · rw [k4 hc]
      repeat (first | (with_reducible first | apply aw_seq | apply aw_reg | apply rp_nil | apply ae_norm | apply aw_ret | apply re_ret) | ((with_reducible apply rp); first | ((with_reducible apply does_move); (conv => lhs; whnf)) | ((with_reducible apply does_assign); (conv => lhs; whnf))))
      (with_reducible apply ret_ok); (focus (repeat' (first | (with_reducible apply rv_nil) | (with_reducible apply rv_cons) | ((with_reducible apply rv_tmp); exact rfl)))); exact rfl; refine SubD.of_eq ?_
      rfl
    · rw [k5 hc]
      repeat (first | (with_reducible first | apply aw_seq | apply aw_reg | apply rp_nil | apply ae_norm | apply aw_ret | apply re_ret | apply aw_skip) | ((with_reducible apply rp); first | ((with_reducible apply does_move); (conv => lhs; whnf)) | ((with_reducible apply does_assign); (conv => lhs; whnf))))
      (with_reducible apply ret_ok); (focus (repeat' (first | (with_reducible apply rv_nil) | (with_reducible apply rv_cons) | ((with_reducible apply rv_tmp); exact rfl)))); exact rfl; refine SubD.of_eq ?_
      rfl
  · obtain ⟨n3, k1, k2, k3, k4, k5⟩ := key n hnl (by unfold finF rung; omega)
    have hcm : (((n / 4503599627370496 % 2048 : Nat) : Int) == 2047) = false := beq_eq_false_iff_ne.2 (by omega)
    refine ⟨n3, k1, k2, k3, ?_⟩
    refine pc_of_aw Tryd.func39 rfl (by kernel_rfl) mixed (by kernel_rfl) (by rw [Tryd.ntmps39]; exact Nat.le_of_ble_eq_true rfl) Tryd.results39 ?_
    repeat (first | (with_reducible first | apply aw_seq | apply aw_reg | apply rp_nil | apply ae_norm) | ((with_reducible apply rp); first | (exact does_int_to (z := qD n) rfl rfl trivial (congrArg (fun z => D.sc (.int .u64 z)) hn0)) | (exact does_shr_q (m := n) (k := 52) (z := n / 4503599627370496) rfl rfl rfl (by omega) rfl) | (exact does_int_to (z := qD (n / 4503599627370496 % 2048)) rfl rfl trivial (congrArg (fun z => D.sc (.int .u64 z)) h2047)) | ((with_reducible apply does_move); (conv => lhs; whnf)) | ((with_reducible apply does_assign); (conv => lhs; whnf)) | ((with_reducible apply does_eq); exact rfl; exact rfl) | ((with_reducible apply does_shl); exact rfl; exact rfl; omega) | ((with_reducible apply does_conv_int); exact tyOk rfl; exact tyOk rfl; exact rfl; exact rfl)))
    refine aw_cond rfl (fun hc => absurd (hcm.symm.trans hc) (by decide)) (fun _ => ?_)
    repeat (first | (with_reducible first | apply aw_seq | apply aw_reg | apply rp_nil | apply ae_norm | apply aw_skip) | ((with_reducible apply rp); first | ((with_reducible apply does_move); (conv => lhs; whnf)) | ((with_reducible apply does_eq); exact rfl; exact rfl)))
    refine aw_cond rfl (fun hc => ?_) (fun hc => ?_)
    · rw [k4 hc]
      repeat (first | (with_reducible first | apply aw_seq | apply aw_reg | apply rp_nil | apply ae_norm | apply aw_ret | apply re_ret) | ((with_reducible apply rp); first | ((with_reducible apply does_move); (conv => lhs; whnf)) | ((with_reducible apply does_assign); (conv => lhs; whnf))))
      (with_reducible apply ret_ok); (focus (repeat' (first | (with_reducible apply rv_nil) | (with_reducible apply rv_cons) | ((with_reducible apply rv_tmp); exact rfl)))); exact rfl; refine SubD.of_eq ?_
      rfl
    · rw [k5 hc]
      repeat (first | (with_reducible first | apply aw_seq | apply aw_reg | apply rp_nil | apply ae_norm | apply aw_ret | apply re_ret | apply aw_skip) | ((with_reducible apply rp); first | ((with_reducible apply does_move); (conv => lhs; whnf)) | ((with_reducible apply does_assign); (conv => lhs; whnf))))
      (with_reducible apply ret_ok); (focus (repeat' (first | (with_reducible apply rv_nil) | (with_reducible apply rv_cons) | ((with_reducible apply rv_tmp); exact rfl)))); exact rfl; refine SubD.of_eq ?_
      rfl
set_option maxHeartbeats 1000000 in
theorem valOf_pc (k : Nat) (hk : k ≤ 4) (r : Raw) : ∃ v : Vl, Gd v ∧ v.k = k ∧ PC Tryd.prog 88 [iD k, .ag r.cs] (.ag v.cs) := by
  rcases (by omega : k = 0 ∨ k = 1 ∨ k = 2 ∨ k = 3 ∨ k = 4) with rfl | rfl | rfl | rfl | rfl
  · refine ⟨_, .null, rfl, ?_⟩
    refine pc_of_aw Tryd.func88 rfl (by kernel_rfl) mixed (by kernel_rfl) (by rw [Tryd.ntmps88]; exact Nat.le_of_ble_eq_true rfl) Tryd.results88 ?_
    repeat (first | (with_reducible first | apply aw_seq | apply aw_reg | apply rp_nil | apply ae_norm | apply aw_block) | ((with_reducible apply rp); first | ((with_reducible apply does_move); (conv => lhs; whnf)) | ((with_reducible apply does_assign); (conv => lhs; whnf)) | ((with_reducible apply does_eq); exact rfl; exact rfl) | ((with_reducible apply does_build); exact tyOk rfl; exact rfl; exact rfl; (focus repeat' (first | exact rfl | refine ⟨_, _, rfl, rfl, Nat.le_of_ble_eq_true rfl, rfl, ?_⟩)); exact rfl)) | ((with_reducible apply rp1); first | ((with_reducible apply does_box_ag); exact rfl; exact rfl) | ((with_reducible apply does_alloc); exact tyOk rfl; exact rfl)) | ((with_reducible apply rpN); ((with_reducible apply does_store_whole); exact tyOk rfl; exact rfl; exact rfl; exact rfl; exact rfl; exact rfl)))
    refine aw_cond rfl (fun h => (by cases h)) (fun _ => ?_)
    repeat (first | (with_reducible first | apply aw_seq | apply aw_reg | apply rp_nil | apply ae_norm) | ((with_reducible apply rp); first | ((with_reducible apply does_assign); (conv => lhs; whnf)) | ((with_reducible apply does_eq); exact rfl; exact rfl)))
    refine aw_cond rfl (fun h => (by cases h)) (fun _ => ?_)
    repeat (first | (with_reducible first | apply aw_seq | apply aw_reg | apply rp_nil | apply ae_norm) | ((with_reducible apply rp); first | ((with_reducible apply does_assign); (conv => lhs; whnf)) | ((with_reducible apply does_eq); exact rfl; exact rfl)))
    refine aw_cond rfl (fun h => (by cases h)) (fun _ => ?_)
    repeat (first | (with_reducible first | apply aw_seq | apply aw_reg | apply rp_nil | apply ae_norm) | ((with_reducible apply rp); first | ((with_reducible apply does_assign); (conv => lhs; whnf)) | ((with_reducible apply does_eq); exact rfl; exact rfl)))
    refine aw_cond rfl (fun h => (by cases h)) (fun _ => ?_)
    repeat (first | (with_reducible first | apply aw_seq | apply aw_reg | apply rp_nil | apply ae_norm | apply be_norm | apply aw_ret | apply re_ret | apply aw_skip) | ((with_reducible apply rp); ((with_reducible apply does_load_row); exact tyOk rfl; exact rfl; exact rfl; exact rfl; exact Nat.le_of_ble_eq_true rfl; exact rfl)) | ((with_reducible apply rpN); ((with_reducible apply does_store_whole); exact tyOk rfl; exact rfl; exact rfl; exact rfl; exact rfl; exact rfl)))
    (with_reducible apply ret_ok); (focus (repeat' (first | (with_reducible apply rv_nil) | (with_reducible apply rv_cons) | ((with_reducible apply rv_rowd); exact rfl; exact rfl; exact tyOk rfl; exact rfl; exact rfl)))); exact rfl; refine SubD.of_eq ?_
    rfl
  · obtain ⟨u, hu, p1⟩ := picked_nat r.a 2 (by omega) (by omega)
    refine ⟨_, .bool (u : Int) (by omega), rfl, ?_⟩
    refine pc_of_aw Tryd.func88 rfl (by kernel_rfl) mixed (by kernel_rfl) (by rw [Tryd.ntmps88]; exact Nat.le_of_ble_eq_true rfl) Tryd.results88 ?_
    repeat (first | (with_reducible first | apply aw_seq | apply aw_reg | apply rp_nil | apply ae_norm | apply aw_block) | ((with_reducible apply rp); first | ((with_reducible apply does_move); (conv => lhs; whnf)) | ((with_reducible apply does_assign); (conv => lhs; whnf)) | ((with_reducible apply does_eq); exact rfl; exact rfl) | ((with_reducible apply does_build); exact tyOk rfl; exact rfl; exact rfl; (focus repeat' (first | exact rfl | refine ⟨_, _, rfl, rfl, Nat.le_of_ble_eq_true rfl, rfl, ?_⟩)); exact rfl)) | ((with_reducible apply rp1); first | ((with_reducible apply does_box_ag); exact rfl; exact rfl) | ((with_reducible apply does_alloc); exact tyOk rfl; exact rfl)) | ((with_reducible apply rpN); ((with_reducible apply does_store_whole); exact tyOk rfl; exact rfl; exact rfl; exact rfl; exact rfl; exact rfl)))
    refine aw_cond rfl (fun _ => ?_) (fun h => (by cases h))
    repeat (first | (with_reducible first | apply aw_seq | apply aw_reg | apply rp_nil | apply ae_norm | apply be_norm | apply aw_ret | apply re_ret) | ((with_reducible apply rp); first | ((with_reducible apply does_call_flat); exact rfl; exact rfl; exact (p1); exact rfl) | ((with_reducible apply does_fieldAddr); exact tyOk rfl; exact rfl; exact rfl; decide; exact rfl) | ((with_reducible apply does_load_var); exact tyOk rfl; exact rfl; exact rfl; exact rfl; exact rfl) | ((with_reducible apply does_load_row); exact tyOk rfl; exact rfl; exact rfl; exact rfl; exact Nat.le_of_ble_eq_true rfl; exact rfl)) | ((with_reducible apply rpN); first | ((with_reducible apply does_store); exact tyOk rfl; exact rfl; exact rfl; (conv => lhs; whnf); exact rfl; exact rfl; exact Nat.le_of_ble_eq_true rfl) | ((with_reducible apply does_store_whole); exact tyOk rfl; exact rfl; exact rfl; exact rfl; exact rfl; exact rfl)))
    (with_reducible apply ret_ok); (focus (repeat' (first | (with_reducible apply rv_nil) | (with_reducible apply rv_cons) | ((with_reducible apply rv_rowd); exact rfl; exact rfl; exact tyOk rfl; exact rfl; exact rfl)))); exact rfl; refine SubD.of_eq ?_
    rfl
  · refine ⟨_, .int r.a, rfl, ?_⟩
    refine pc_of_aw Tryd.func88 rfl (by kernel_rfl) mixed (by kernel_rfl) (by rw [Tryd.ntmps88]; exact Nat.le_of_ble_eq_true rfl) Tryd.results88 ?_
    repeat (first | (with_reducible first | apply aw_seq | apply aw_reg | apply rp_nil | apply ae_norm | apply aw_block) | ((with_reducible apply rp); first | ((with_reducible apply does_move); (conv => lhs; whnf)) | ((with_reducible apply does_assign); (conv => lhs; whnf)) | ((with_reducible apply does_eq); exact rfl; exact rfl) | ((with_reducible apply does_build); exact tyOk rfl; exact rfl; exact rfl; (focus repeat' (first | exact rfl | refine ⟨_, _, rfl, rfl, Nat.le_of_ble_eq_true rfl, rfl, ?_⟩)); exact rfl)) | ((with_reducible apply rp1); first | ((with_reducible apply does_box_ag); exact rfl; exact rfl) | ((with_reducible apply does_alloc); exact tyOk rfl; exact rfl)) | ((with_reducible apply rpN); ((with_reducible apply does_store_whole); exact tyOk rfl; exact rfl; exact rfl; exact rfl; exact rfl; exact rfl)))
    refine aw_cond rfl (fun h => (by cases h)) (fun _ => ?_)
    repeat (first | (with_reducible first | apply aw_seq | apply aw_reg | apply rp_nil | apply ae_norm) | ((with_reducible apply rp); first | ((with_reducible apply does_assign); (conv => lhs; whnf)) | ((with_reducible apply does_eq); exact rfl; exact rfl)))
    refine aw_cond rfl (fun _ => ?_) (fun h => (by cases h))
    repeat (first | (with_reducible first | apply aw_seq | apply aw_reg | apply rp_nil | apply ae_norm | apply be_norm | apply aw_ret | apply re_ret) | ((with_reducible apply rp); first | ((with_reducible apply does_fieldAddr); exact tyOk rfl; exact rfl; exact rfl; decide; exact rfl) | ((with_reducible apply does_load_var); exact tyOk rfl; exact rfl; exact rfl; exact rfl; exact rfl) | ((with_reducible apply does_load_row); exact tyOk rfl; exact rfl; exact rfl; exact rfl; exact Nat.le_of_ble_eq_true rfl; exact rfl)) | ((with_reducible apply rpN); first | ((with_reducible apply does_store); exact tyOk rfl; exact rfl; exact rfl; (conv => lhs; whnf); exact rfl; exact rfl; exact Nat.le_of_ble_eq_true rfl) | ((with_reducible apply does_store_whole); exact tyOk rfl; exact rfl; exact rfl; exact rfl; exact rfl; exact rfl)))
    (with_reducible apply ret_ok); (focus (repeat' (first | (with_reducible apply rv_nil) | (with_reducible apply rv_cons) | ((with_reducible apply rv_rowd); exact rfl; exact rfl; exact tyOk rfl; exact rfl; exact rfl)))); exact rfl; refine SubD.of_eq ?_
    rfl
  · obtain ⟨n, h1, h2, h3, p1⟩ := real_pc r.a r.b
    refine ⟨_, .real n h1 h2 h3, rfl, ?_⟩
    refine pc_of_aw Tryd.func88 rfl (by kernel_rfl) mixed (by kernel_rfl) (by rw [Tryd.ntmps88]; exact Nat.le_of_ble_eq_true rfl) Tryd.results88 ?_
    repeat (first | (with_reducible first | apply aw_seq | apply aw_reg | apply rp_nil | apply ae_norm | apply aw_block) | ((with_reducible apply rp); first | ((with_reducible apply does_move); (conv => lhs; whnf)) | ((with_reducible apply does_assign); (conv => lhs; whnf)) | ((with_reducible apply does_eq); exact rfl; exact rfl) | ((with_reducible apply does_build); exact tyOk rfl; exact rfl; exact rfl; (focus repeat' (first | exact rfl | refine ⟨_, _, rfl, rfl, Nat.le_of_ble_eq_true rfl, rfl, ?_⟩)); exact rfl)) | ((with_reducible apply rp1); first | ((with_reducible apply does_box_ag); exact rfl; exact rfl) | ((with_reducible apply does_alloc); exact tyOk rfl; exact rfl)) | ((with_reducible apply rpN); ((with_reducible apply does_store_whole); exact tyOk rfl; exact rfl; exact rfl; exact rfl; exact rfl; exact rfl)))
    refine aw_cond rfl (fun h => (by cases h)) (fun _ => ?_)
    repeat (first | (with_reducible first | apply aw_seq | apply aw_reg | apply rp_nil | apply ae_norm) | ((with_reducible apply rp); first | ((with_reducible apply does_assign); (conv => lhs; whnf)) | ((with_reducible apply does_eq); exact rfl; exact rfl)))
    refine aw_cond rfl (fun h => (by cases h)) (fun _ => ?_)
    repeat (first | (with_reducible first | apply aw_seq | apply aw_reg | apply rp_nil | apply ae_norm) | ((with_reducible apply rp); first | ((with_reducible apply does_assign); (conv => lhs; whnf)) | ((with_reducible apply does_eq); exact rfl; exact rfl)))
    refine aw_cond rfl (fun _ => ?_) (fun h => (by cases h))
    repeat (first | (with_reducible first | apply aw_seq | apply aw_reg | apply rp_nil | apply ae_norm | apply be_norm | apply aw_ret | apply re_ret) | ((with_reducible apply rp); first | ((with_reducible apply does_call_flat); exact rfl; exact rfl; exact (p1); exact rfl) | ((with_reducible apply does_fieldAddr); exact tyOk rfl; exact rfl; exact rfl; decide; exact rfl) | ((with_reducible apply does_load_var); exact tyOk rfl; exact rfl; exact rfl; exact rfl; exact rfl) | ((with_reducible apply does_load_row); exact tyOk rfl; exact rfl; exact rfl; exact rfl; exact Nat.le_of_ble_eq_true rfl; exact rfl)) | ((with_reducible apply rpN); first | ((with_reducible apply does_store); exact tyOk rfl; exact rfl; exact rfl; (conv => lhs; whnf); exact rfl; exact rfl; exact Nat.le_of_ble_eq_true rfl) | ((with_reducible apply does_store_whole); exact tyOk rfl; exact rfl; exact rfl; exact rfl; exact rfl; exact rfl)))
    (with_reducible apply ret_ok); (focus (repeat' (first | (with_reducible apply rv_nil) | (with_reducible apply rv_cons) | ((with_reducible apply rv_rowd); exact rfl; exact rfl; exact tyOk rfl; exact rfl; exact rfl)))); exact rfl; refine SubD.of_eq ?_
    rfl
  · have p1 := clean_pc r.text 20 (by omega)
    refine ⟨_, .text (cleanT r.text 20) (Nat.le_trans (cleanT_size r.text 20) (by omega)) (cleanT_valid r.text 20), rfl, ?_⟩
    generalize cleanT r.text 20 = tx at *
    refine pc_of_aw Tryd.func88 rfl (by kernel_rfl) mixed (by kernel_rfl) (by rw [Tryd.ntmps88]; exact Nat.le_of_ble_eq_true rfl) Tryd.results88 ?_
    repeat (first | (with_reducible first | apply aw_seq | apply aw_reg | apply rp_nil | apply ae_norm | apply aw_block) | ((with_reducible apply rp); first | ((with_reducible apply does_move); (conv => lhs; whnf)) | ((with_reducible apply does_assign); (conv => lhs; whnf)) | ((with_reducible apply does_eq); exact rfl; exact rfl) | ((with_reducible apply does_build); exact tyOk rfl; exact rfl; exact rfl; (focus repeat' (first | exact rfl | refine ⟨_, _, rfl, rfl, Nat.le_of_ble_eq_true rfl, rfl, ?_⟩)); exact rfl)) | ((with_reducible apply rp1); first | ((with_reducible apply does_box_ag); exact rfl; exact rfl) | ((with_reducible apply does_alloc); exact tyOk rfl; exact rfl)) | ((with_reducible apply rpN); ((with_reducible apply does_store_whole); exact tyOk rfl; exact rfl; exact rfl; exact rfl; exact rfl; exact rfl)))
    refine aw_cond rfl (fun h => (by cases h)) (fun _ => ?_)
    repeat (first | (with_reducible first | apply aw_seq | apply aw_reg | apply rp_nil | apply ae_norm) | ((with_reducible apply rp); first | ((with_reducible apply does_assign); (conv => lhs; whnf)) | ((with_reducible apply does_eq); exact rfl; exact rfl)))
    refine aw_cond rfl (fun h => (by cases h)) (fun _ => ?_)
    repeat (first | (with_reducible first | apply aw_seq | apply aw_reg | apply rp_nil | apply ae_norm) | ((with_reducible apply rp); first | ((with_reducible apply does_assign); (conv => lhs; whnf)) | ((with_reducible apply does_eq); exact rfl; exact rfl)))
    refine aw_cond rfl (fun h => (by cases h)) (fun _ => ?_)
    repeat (first | (with_reducible first | apply aw_seq | apply aw_reg | apply rp_nil | apply ae_norm) | ((with_reducible apply rp); first | ((with_reducible apply does_assign); (conv => lhs; whnf)) | ((with_reducible apply does_eq); exact rfl; exact rfl)))
    refine aw_cond rfl (fun _ => ?_) (fun h => (by cases h))
    repeat (first | (with_reducible first | apply aw_seq | apply aw_reg | apply rp_nil | apply ae_norm | apply be_norm | apply aw_ret | apply re_ret) | ((with_reducible apply rp); first | ((with_reducible apply does_call_flat); exact rfl; exact rfl; exact (p1); exact rfl) | ((with_reducible apply does_fieldAddr); exact tyOk rfl; exact rfl; exact rfl; decide; exact rfl) | ((with_reducible apply does_load_var); exact tyOk rfl; exact rfl; exact rfl; exact rfl; exact rfl) | ((with_reducible apply does_load_row); exact tyOk rfl; exact rfl; exact rfl; exact rfl; exact Nat.le_of_ble_eq_true rfl; exact rfl)) | ((with_reducible apply rpN); first | ((with_reducible apply does_store); exact tyOk rfl; exact rfl; exact rfl; (conv => lhs; whnf); exact rfl; exact rfl; exact Nat.le_of_ble_eq_true rfl) | ((with_reducible apply does_store_whole); exact tyOk rfl; exact rfl; exact rfl; exact rfl; exact rfl; exact rfl)))
    (with_reducible apply ret_ok); (focus (repeat' (first | (with_reducible apply rv_nil) | (with_reducible apply rv_cons) | ((with_reducible apply rv_rowd); exact rfl; exact rfl; exact tyOk rfl; exact rfl; exact rfl)))); exact rfl; refine SubD.of_eq ?_
    rfl
end Go.Proofs.YtlpnnnmdkglkcaaDoor

