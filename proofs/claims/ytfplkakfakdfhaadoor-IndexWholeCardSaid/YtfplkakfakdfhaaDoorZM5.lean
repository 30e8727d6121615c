/-
  chirographkeep.real, ValOf, Val: what they make may be. No condition.
-/
import Derived.Test.YtfplkakfakdfhaaDoorZM3
import Derived.Test.YtfplkakfakdfhaaDoorZM4
import Derived.Test.YtfplkakfakdfhaaDoorZG
import Derived.Test.YtfplkakfakdfhaaDoorZC
namespace Go.Proofs.YtfplkakfakdfhaaDoor
set_option linter.unusedSimpArgs false
set_option linter.unusedVariables false
open Go.RowKit

section
variable {P : Program} {dst : Option Nat} {ty : TypeId} {e : Operand → A} {β : Bx} {T T' : TypeId} {x y : Operand}
theorem does_shr_q {m k z : Nat} {k' : IntKind} {n : Int} (hx : e x = .d (qD m)) (hy : e y = .d (.sc (.int k' n))) (hn : n = (k : Nat)) (hk : k ≤ 64) (hz : m / 2 ^ k = z) : Does P dst (.binOp .shr T x y T') ty e β (.d (qD z)) [] [] := by
  subst hn hz
  have h := does_shr (P := P) (dst := dst) (ty := ty) (β := β) (T := T) (T' := T') hx hy (by omega)
  have e1 : min (Int.toNat ((k : Nat) : Int)) IntKind.u64.bits = k := by show min k 64 = k; omega
  have e2 : Int.fdiv (m : Int) (2 ^ k) = ((m / 2 ^ k : Nat) : Int) := by
    have h2 : (2 : Int) ^ k = ((2 ^ k : Nat) : Int) := by simp
    rw [h2, Int.fdiv_eq_ediv_of_nonneg _ (Int.natCast_nonneg _)]
    rfl
  rwa [e1, e2] at h
end
theorem real_mask {n : Nat} (hn : n < 18446744073709551616) (h : n / 4503599627370496 % 2048 = 2047) : (n ^^^ 4611686018427387904) / 4503599627370496 % 2048 = 1023 := by
  have e1 : (n ^^^ 4611686018427387904) / 4503599627370496 = (n / 4503599627370496) ^^^ 1024 := by
    have h1 := Nat.shiftRight_xor_distrib (a := n) (b := 4611686018427387904) (i := 52)
    rw [Nat.shiftRight_eq_div_pow, Nat.shiftRight_eq_div_pow, Nat.shiftRight_eq_div_pow] at h1
    exact h1
  rw [e1]
  rcases (by omega : n / 4503599627370496 = 2047 ∨ n / 4503599627370496 = 4095) with h | h <;> (rw [h]; decide)
set_option maxHeartbeats 1000000 in
theorem real_pc (a b : Int) : ∃ n : Nat, n < 18446744073709551616 ∧ finF n ∧ n ≠ 9223372036854775808 ∧ PC Tryd.prog 33 [iD a, iD b] (qD n) := by
  obtain ⟨x, hx, ex⟩ := u64_nat (IntKind.u64.wrap a * 2 ^ (min (Int.toNat 40) IntKind.u64.bits))
  obtain ⟨y, hy, ey⟩ := u64_nat b
  obtain ⟨n, hn⟩ : ∃ n, x ^^^ y = n := ⟨_, rfl⟩
  obtain ⟨hn0, hnl⟩ := xor_nat x y hx hy
  rw [hn] at hn0 hnl
  rw [← ex, ← ey] at hn0
  have h2047 : bitV .and .u64 ((n / 4503599627370496 : Nat) : Int) 2047 = ((n / 4503599627370496 % 2048 : Nat) : Int) := by
    have h := and_nat (n / 4503599627370496) 2047 (by omega) (by omega)
    have h2 : n / 4503599627370496 &&& 2047 = n / 4503599627370496 % 2048 := Nat.and_two_pow_sub_one_eq_mod _ 11
    rw [h2] at h
    exact h
  have key : ∀ n2 : Nat, n2 < 18446744073709551616 → finF n2 → ∃ n3 : Nat, n3 < 18446744073709551616 ∧ finF n3 ∧ n3 ≠ 9223372036854775808 ∧ ((((n2 : Nat) : Int) == 9223372036854775808) = true → n3 = 0) ∧ ((((n2 : Nat) : Int) == 9223372036854775808) = false → n3 = n2) := fun n2 h1 h2 => by
    by_cases hz : n2 = 9223372036854775808
    · exact ⟨0, by omega, by unfold finF rung; omega, by omega, fun _ => rfl, fun h => by rw [hz] at h; cases h⟩
    · exact ⟨n2, h1, h2, hz, fun h => by exfalso; apply hz; have := eq_of_beq h; omega, fun _ => rfl⟩
  by_cases hm : n / 4503599627370496 % 2048 = 2047
  · obtain ⟨xn, hxl⟩ := xor_nat n 4611686018427387904 hnl (by omega)
    have hmk := real_mask hnl hm
    obtain ⟨n2, hn2⟩ : ∃ n2, n ^^^ 4611686018427387904 = n2 := ⟨_, rfl⟩
    rw [hn2] at xn hxl hmk
    obtain ⟨n3, k1, k2, k3, k4, k5⟩ := key n2 hxl (by unfold finF rung; omega)
    have hcm : (((n / 4503599627370496 % 2048 : Nat) : Int) == 2047) = true := by rw [hm]; rfl
    refine ⟨n3, k1, k2, k3, ?_⟩
    refine pc_of_aw Tryd.func33 rfl (by kernel_rfl) mixed (by kernel_rfl) (by rw [Tryd.ntmps33]; exact Nat.le_of_ble_eq_true rfl) Tryd.results33 ?_
    repeat (first | (with_reducible first | apply aw_seq | apply aw_reg | apply rp_nil | apply ae_norm) | ((with_reducible apply rp); first | (exact does_int_to (z := qD n) rfl rfl trivial (congrArg (fun z => D.sc (.int .u64 z)) hn0)) | (exact does_shr_q (m := n) (k := 52) (z := n / 4503599627370496) rfl rfl rfl (by omega) rfl) | (exact does_int_to (z := qD (n / 4503599627370496 % 2048)) rfl rfl trivial (congrArg (fun z => D.sc (.int .u64 z)) h2047)) | ((with_reducible apply does_move); (conv => lhs; whnf)) | ((with_reducible apply does_assign); (conv => lhs; whnf)) | ((with_reducible apply does_eq); exact rfl; exact rfl) | ((with_reducible apply does_shl); exact rfl; exact rfl; omega) | ((with_reducible apply does_conv_int); exact tyOk rfl; exact tyOk rfl; exact rfl; exact rfl)))
    refine aw_cond rfl (fun _ => ?_) (fun hc => absurd (hcm.symm.trans hc) (by decide))
    repeat (first | (with_reducible first | apply aw_seq | apply aw_reg | apply rp_nil | apply ae_norm) | ((with_reducible apply rp); first | (exact does_int_to (z := qD n2) rfl rfl trivial (congrArg (fun z => D.sc (.int .u64 z)) xn)) | ((with_reducible apply does_move); (conv => lhs; whnf)) | ((with_reducible apply does_assign); (conv => lhs; whnf)) | ((with_reducible apply does_eq); exact rfl; exact rfl)))
    refine aw_cond rfl (fun hc => ?_) (fun hc => ?_)
    · rw [k4 hc]
      repeat (first | (with_reducible first | apply aw_seq | apply aw_reg | apply rp_nil | apply ae_norm | apply aw_ret | apply re_ret) | ((with_reducible apply rp); first | ((with_reducible apply does_move); (conv => lhs; whnf)) | ((with_reducible apply does_assign); (conv => lhs; whnf))))
      (with_reducible apply ret_ok); (focus (repeat' (first | (with_reducible apply rv_nil) | (with_reducible apply rv_cons) | ((with_reducible apply rv_tmp); exact rfl)))); exact rfl; refine SubD.of_eq ?_
      rfl
    · rw [k5 hc]
      repeat (first | (with_reducible first | apply aw_seq | apply aw_reg | apply rp_nil | apply ae_norm | apply aw_ret | apply re_ret | apply aw_skip) | ((with_reducible apply rp); first | ((with_reducible apply does_move); (conv => lhs; whnf)) | ((with_reducible apply does_assign); (conv => lhs; whnf))))
      (with_reducible apply ret_ok); (focus (repeat' (first | (with_reducible apply rv_nil) | (with_reducible apply rv_cons) | ((with_reducible apply rv_tmp); exact rfl)))); exact rfl; refine SubD.of_eq ?_
      rfl
  · obtain ⟨n3, k1, k2, k3, k4, k5⟩ := key n hnl (by unfold finF rung; omega)
    have hcm : (((n / 4503599627370496 % 2048 : Nat) : Int) == 2047) = false := beq_eq_false_iff_ne.2 (by omega)
    refine ⟨n3, k1, k2, k3, ?_⟩
    refine pc_of_aw Tryd.func33 rfl (by kernel_rfl) mixed (by kernel_rfl) (by rw [Tryd.ntmps33]; exact Nat.le_of_ble_eq_true rfl) Tryd.results33 ?_
    repeat (first | (with_reducible first | apply aw_seq | apply aw_reg | apply rp_nil | apply ae_norm) | ((with_reducible apply rp); first | (exact does_int_to (z := qD n) rfl rfl trivial (congrArg (fun z => D.sc (.int .u64 z)) hn0)) | (exact does_shr_q (m := n) (k := 52) (z := n / 4503599627370496) rfl rfl rfl (by omega) rfl) | (exact does_int_to (z := qD (n / 4503599627370496 % 2048)) rfl rfl trivial (congrArg (fun z => D.sc (.int .u64 z)) h2047)) | ((with_reducible apply does_move); (conv => lhs; whnf)) | ((with_reducible apply does_assign); (conv => lhs; whnf)) | ((with_reducible apply does_eq); exact rfl; exact rfl) | ((with_reducible apply does_shl); exact rfl; exact rfl; omega) | ((with_reducible apply does_conv_int); exact tyOk rfl; exact tyOk rfl; exact rfl; exact rfl)))
    refine aw_cond rfl (fun hc => absurd (hcm.symm.trans hc) (by decide)) (fun _ => ?_)
    repeat (first | (with_reducible first | apply aw_seq | apply aw_reg | apply rp_nil | apply ae_norm | apply aw_skip) | ((with_reducible apply rp); first | ((with_reducible apply does_move); (conv => lhs; whnf)) | ((with_reducible apply does_eq); exact rfl; exact rfl)))
    refine aw_cond rfl (fun hc => ?_) (fun hc => ?_)
    · rw [k4 hc]
      repeat (first | (with_reducible first | apply aw_seq | apply aw_reg | apply rp_nil | apply ae_norm | apply aw_ret | apply re_ret) | ((with_reducible apply rp); first | ((with_reducible apply does_move); (conv => lhs; whnf)) | ((with_reducible apply does_assign); (conv => lhs; whnf))))
      (with_reducible apply ret_ok); (focus (repeat' (first | (with_reducible apply rv_nil) | (with_reducible apply rv_cons) | ((with_reducible apply rv_tmp); exact rfl)))); exact rfl; refine SubD.of_eq ?_
      rfl
    · rw [k5 hc]
      repeat (first | (with_reducible first | apply aw_seq | apply aw_reg | apply rp_nil | apply ae_norm | apply aw_ret | apply re_ret | apply aw_skip) | ((with_reducible apply rp); first | ((with_reducible apply does_move); (conv => lhs; whnf)) | ((with_reducible apply does_assign); (conv => lhs; whnf))))
      (with_reducible apply ret_ok); (focus (repeat' (first | (with_reducible apply rv_nil) | (with_reducible apply rv_cons) | ((with_reducible apply rv_tmp); exact rfl)))); exact rfl; refine SubD.of_eq ?_
      rfl
set_option maxHeartbeats 1000000 in
theorem valOf_pc (k : Nat) (hk : k ≤ 4) (r : Raw) : ∃ v : Vl, Gd v ∧ v.k = k ∧ PC Tryd.prog 21 [iD k, .ag r.cs] (.ag v.cs) := by
  rcases (by omega : k = 0 ∨ k = 1 ∨ k = 2 ∨ k = 3 ∨ k = 4) with rfl | rfl | rfl | rfl | rfl
  · refine ⟨_, .null, rfl, ?_⟩
    refine pc_of_aw Tryd.func21 rfl (by kernel_rfl) mixed (by kernel_rfl) (by rw [Tryd.ntmps21]; exact Nat.le_of_ble_eq_true rfl) Tryd.results21 ?_
    repeat (first | (with_reducible first | apply aw_seq | apply aw_reg | apply rp_nil | apply ae_norm | apply aw_block) | ((with_reducible apply rp); first | ((with_reducible apply does_move); (conv => lhs; whnf)) | ((with_reducible apply does_assign); (conv => lhs; whnf)) | ((with_reducible apply does_eq); exact rfl; exact rfl) | ((with_reducible apply does_build); exact tyOk rfl; exact rfl; exact rfl; (focus repeat' (first | exact rfl | refine ⟨_, _, rfl, rfl, Nat.le_of_ble_eq_true rfl, rfl, ?_⟩)); exact rfl)) | ((with_reducible apply rp1); first | ((with_reducible apply does_box_ag); exact rfl; exact rfl) | ((with_reducible apply does_alloc); exact tyOk rfl; exact rfl)) | ((with_reducible apply rpN); ((with_reducible apply does_store_whole); exact tyOk rfl; exact rfl; exact rfl; exact rfl; exact rfl; exact rfl)))
    refine aw_cond rfl (fun h => (by cases h)) (fun _ => ?_)
    repeat (first | (with_reducible first | apply aw_seq | apply aw_reg | apply rp_nil | apply ae_norm) | ((with_reducible apply rp); first | ((with_reducible apply does_assign); (conv => lhs; whnf)) | ((with_reducible apply does_eq); exact rfl; exact rfl)))
    refine aw_cond rfl (fun h => (by cases h)) (fun _ => ?_)
    repeat (first | (with_reducible first | apply aw_seq | apply aw_reg | apply rp_nil | apply ae_norm) | ((with_reducible apply rp); first | ((with_reducible apply does_assign); (conv => lhs; whnf)) | ((with_reducible apply does_eq); exact rfl; exact rfl)))
    refine aw_cond rfl (fun h => (by cases h)) (fun _ => ?_)
    repeat (first | (with_reducible first | apply aw_seq | apply aw_reg | apply rp_nil | apply ae_norm) | ((with_reducible apply rp); first | ((with_reducible apply does_assign); (conv => lhs; whnf)) | ((with_reducible apply does_eq); exact rfl; exact rfl)))
    refine aw_cond rfl (fun h => (by cases h)) (fun _ => ?_)
    repeat (first | (with_reducible first | apply aw_seq | apply aw_reg | apply rp_nil | apply ae_norm | apply be_norm | apply aw_ret | apply re_ret | apply aw_skip) | ((with_reducible apply rp); ((with_reducible apply does_load_row); exact tyOk rfl; exact rfl; exact rfl; exact rfl; exact Nat.le_of_ble_eq_true rfl; exact rfl)) | ((with_reducible apply rpN); ((with_reducible apply does_store_whole); exact tyOk rfl; exact rfl; exact rfl; exact rfl; exact rfl; exact rfl)))
    (with_reducible apply ret_ok); (focus (repeat' (first | (with_reducible apply rv_nil) | (with_reducible apply rv_cons) | ((with_reducible apply rv_rowd); exact rfl; exact rfl; exact tyOk rfl; exact rfl; exact rfl)))); exact rfl; refine SubD.of_eq ?_
    rfl
  · obtain ⟨u, hu, p1⟩ := picked_nat r.a 2 (by omega) (by omega)
    refine ⟨_, .bool (u : Int) (by omega), rfl, ?_⟩
    refine pc_of_aw Tryd.func21 rfl (by kernel_rfl) mixed (by kernel_rfl) (by rw [Tryd.ntmps21]; exact Nat.le_of_ble_eq_true rfl) Tryd.results21 ?_
    repeat (first | (with_reducible first | apply aw_seq | apply aw_reg | apply rp_nil | apply ae_norm | apply aw_block) | ((with_reducible apply rp); first | ((with_reducible apply does_move); (conv => lhs; whnf)) | ((with_reducible apply does_assign); (conv => lhs; whnf)) | ((with_reducible apply does_eq); exact rfl; exact rfl) | ((with_reducible apply does_build); exact tyOk rfl; exact rfl; exact rfl; (focus repeat' (first | exact rfl | refine ⟨_, _, rfl, rfl, Nat.le_of_ble_eq_true rfl, rfl, ?_⟩)); exact rfl)) | ((with_reducible apply rp1); first | ((with_reducible apply does_box_ag); exact rfl; exact rfl) | ((with_reducible apply does_alloc); exact tyOk rfl; exact rfl)) | ((with_reducible apply rpN); ((with_reducible apply does_store_whole); exact tyOk rfl; exact rfl; exact rfl; exact rfl; exact rfl; exact rfl)))
    refine aw_cond rfl (fun _ => ?_) (fun h => (by cases h))
    repeat (first | (with_reducible first | apply aw_seq | apply aw_reg | apply rp_nil | apply ae_norm | apply be_norm | apply aw_ret | apply re_ret) | ((with_reducible apply rp); first | ((with_reducible apply does_call_flat); exact rfl; exact rfl; exact (p1); exact rfl) | ((with_reducible apply does_fieldAddr); exact tyOk rfl; exact rfl; exact rfl; decide; exact rfl) | ((with_reducible apply does_load_var); exact tyOk rfl; exact rfl; exact rfl; exact rfl; exact rfl) | ((with_reducible apply does_load_row); exact tyOk rfl; exact rfl; exact rfl; exact rfl; exact Nat.le_of_ble_eq_true rfl; exact rfl)) | ((with_reducible apply rpN); first | ((with_reducible apply does_store); exact tyOk rfl; exact rfl; exact rfl; (conv => lhs; whnf); exact rfl; exact rfl; exact Nat.le_of_ble_eq_true rfl) | ((with_reducible apply does_store_whole); exact tyOk rfl; exact rfl; exact rfl; exact rfl; exact rfl; exact rfl)))
    (with_reducible apply ret_ok); (focus (repeat' (first | (with_reducible apply rv_nil) | (with_reducible apply rv_cons) | ((with_reducible apply rv_rowd); exact rfl; exact rfl; exact tyOk rfl; exact rfl; exact rfl)))); exact rfl; refine SubD.of_eq ?_
    rfl
  · refine ⟨_, .int r.a, rfl, ?_⟩
    refine pc_of_aw Tryd.func21 rfl (by kernel_rfl) mixed (by kernel_rfl) (by rw [Tryd.ntmps21]; exact Nat.le_of_ble_eq_true rfl) Tryd.results21 ?_
    repeat (first | (with_reducible first | apply aw_seq | apply aw_reg | apply rp_nil | apply ae_norm | apply aw_block) | ((with_reducible apply rp); first | ((with_reducible apply does_move); (conv => lhs; whnf)) | ((with_reducible apply does_assign); (conv => lhs; whnf)) | ((with_reducible apply does_eq); exact rfl; exact rfl) | ((with_reducible apply does_build); exact tyOk rfl; exact rfl; exact rfl; (focus repeat' (first | exact rfl | refine ⟨_, _, rfl, rfl, Nat.le_of_ble_eq_true rfl, rfl, ?_⟩)); exact rfl)) | ((with_reducible apply rp1); first | ((with_reducible apply does_box_ag); exact rfl; exact rfl) | ((with_reducible apply does_alloc); exact tyOk rfl; exact rfl)) | ((with_reducible apply rpN); ((with_reducible apply does_store_whole); exact tyOk rfl; exact rfl; exact rfl; exact rfl; exact rfl; exact rfl)))
    refine aw_cond rfl (fun h => (by cases h)) (fun _ => ?_)
    repeat (first | (with_reducible first | apply aw_seq | apply aw_reg | apply rp_nil | apply ae_norm) | ((with_reducible apply rp); first | ((with_reducible apply does_assign); (conv => lhs; whnf)) | ((with_reducible apply does_eq); exact rfl; exact rfl)))
    refine aw_cond rfl (fun _ => ?_) (fun h => (by cases h))
    repeat (first | (with_reducible first | apply aw_seq | apply aw_reg | apply rp_nil | apply ae_norm | apply be_norm | apply aw_ret | apply re_ret) | ((with_reducible apply rp); first | ((with_reducible apply does_fieldAddr); exact tyOk rfl; exact rfl; exact rfl; decide; exact rfl) | ((with_reducible apply does_load_var); exact tyOk rfl; exact rfl; exact rfl; exact rfl; exact rfl) | ((with_reducible apply does_load_row); exact tyOk rfl; exact rfl; exact rfl; exact rfl; exact Nat.le_of_ble_eq_true rfl; exact rfl)) | ((with_reducible apply rpN); first | ((with_reducible apply does_store); exact tyOk rfl; exact rfl; exact rfl; (conv => lhs; whnf); exact rfl; exact rfl; exact Nat.le_of_ble_eq_true rfl) | ((with_reducible apply does_store_whole); exact tyOk rfl; exact rfl; exact rfl; exact rfl; exact rfl; exact rfl)))
    (with_reducible apply ret_ok); (focus (repeat' (first | (with_reducible apply rv_nil) | (with_reducible apply rv_cons) | ((with_reducible apply rv_rowd); exact rfl; exact rfl; exact tyOk rfl; exact rfl; exact rfl)))); exact rfl; refine SubD.of_eq ?_
    rfl
  · obtain ⟨n, h1, h2, h3, p1⟩ := real_pc r.a r.b
    refine ⟨_, .real n h1 h2 h3, rfl, ?_⟩
    refine pc_of_aw Tryd.func21 rfl (by kernel_rfl) mixed (by kernel_rfl) (by rw [Tryd.ntmps21]; exact Nat.le_of_ble_eq_true rfl) Tryd.results21 ?_
    repeat (first | (with_reducible first | apply aw_seq | apply aw_reg | apply rp_nil | apply ae_norm | apply aw_block) | ((with_reducible apply rp); first | ((with_reducible apply does_move); (conv => lhs; whnf)) | ((with_reducible apply does_assign); (conv => lhs; whnf)) | ((with_reducible apply does_eq); exact rfl; exact rfl) | ((with_reducible apply does_build); exact tyOk rfl; exact rfl; exact rfl; (focus repeat' (first | exact rfl | refine ⟨_, _, rfl, rfl, Nat.le_of_ble_eq_true rfl, rfl, ?_⟩)); exact rfl)) | ((with_reducible apply rp1); first | ((with_reducible apply does_box_ag); exact rfl; exact rfl) | ((with_reducible apply does_alloc); exact tyOk rfl; exact rfl)) | ((with_reducible apply rpN); ((with_reducible apply does_store_whole); exact tyOk rfl; exact rfl; exact rfl; exact rfl; exact rfl; exact rfl)))
    refine aw_cond rfl (fun h => (by cases h)) (fun _ => ?_)
    repeat (first | (with_reducible first | apply aw_seq | apply aw_reg | apply rp_nil | apply ae_norm) | ((with_reducible apply rp); first | ((with_reducible apply does_assign); (conv => lhs; whnf)) | ((with_reducible apply does_eq); exact rfl; exact rfl)))
    refine aw_cond rfl (fun h => (by cases h)) (fun _ => ?_)
    repeat (first | (with_reducible first | apply aw_seq | apply aw_reg | apply rp_nil | apply ae_norm) | ((with_reducible apply rp); first | ((with_reducible apply does_assign); (conv => lhs; whnf)) | ((with_reducible apply does_eq); exact rfl; exact rfl)))
    refine aw_cond rfl (fun _ => ?_) (fun h => (by cases h))
    repeat (first | (with_reducible first | apply aw_seq | apply aw_reg | apply rp_nil | apply ae_norm | apply be_norm | apply aw_ret | apply re_ret) | ((with_reducible apply rp); first | ((with_reducible apply does_call_flat); exact rfl; exact rfl; exact (p1); exact rfl) | ((with_reducible apply does_fieldAddr); exact tyOk rfl; exact rfl; exact rfl; decide; exact rfl) | ((with_reducible apply does_load_var); exact tyOk rfl; exact rfl; exact rfl; exact rfl; exact rfl) | ((with_reducible apply does_load_row); exact tyOk rfl; exact rfl; exact rfl; exact rfl; exact Nat.le_of_ble_eq_true rfl; exact rfl)) | ((with_reducible apply rpN); first | ((with_reducible apply does_store); exact tyOk rfl; exact rfl; exact rfl; (conv => lhs; whnf); exact rfl; exact rfl; exact Nat.le_of_ble_eq_true rfl) | ((with_reducible apply does_store_whole); exact tyOk rfl; exact rfl; exact rfl; exact rfl; exact rfl; exact rfl)))
    (with_reducible apply ret_ok); (focus (repeat' (first | (with_reducible apply rv_nil) | (with_reducible apply rv_cons) | ((with_reducible apply rv_rowd); exact rfl; exact rfl; exact tyOk rfl; exact rfl; exact rfl)))); exact rfl; refine SubD.of_eq ?_
    rfl
  · have p1 := clean_pc r.text 20 (by omega)
    refine ⟨_, .text (cleanT r.text 20) (Nat.le_trans (cleanT_size r.text 20) (by omega)) (cleanT_valid r.text 20), rfl, ?_⟩
    generalize cleanT r.text 20 = tx at *
    refine pc_of_aw Tryd.func21 rfl (by kernel_rfl) mixed (by kernel_rfl) (by rw [Tryd.ntmps21]; exact Nat.le_of_ble_eq_true rfl) Tryd.results21 ?_
    repeat (first | (with_reducible first | apply aw_seq | apply aw_reg | apply rp_nil | apply ae_norm | apply aw_block) | ((with_reducible apply rp); first | ((with_reducible apply does_move); (conv => lhs; whnf)) | ((with_reducible apply does_assign); (conv => lhs; whnf)) | ((with_reducible apply does_eq); exact rfl; exact rfl) | ((with_reducible apply does_build); exact tyOk rfl; exact rfl; exact rfl; (focus repeat' (first | exact rfl | refine ⟨_, _, rfl, rfl, Nat.le_of_ble_eq_true rfl, rfl, ?_⟩)); exact rfl)) | ((with_reducible apply rp1); first | ((with_reducible apply does_box_ag); exact rfl; exact rfl) | ((with_reducible apply does_alloc); exact tyOk rfl; exact rfl)) | ((with_reducible apply rpN); ((with_reducible apply does_store_whole); exact tyOk rfl; exact rfl; exact rfl; exact rfl; exact rfl; exact rfl)))
    refine aw_cond rfl (fun h => (by cases h)) (fun _ => ?_)
    repeat (first | (with_reducible first | apply aw_seq | apply aw_reg | apply rp_nil | apply ae_norm) | ((with_reducible apply rp); first | ((with_reducible apply does_assign); (conv => lhs; whnf)) | ((with_reducible apply does_eq); exact rfl; exact rfl)))
    refine aw_cond rfl (fun h => (by cases h)) (fun _ => ?_)
    repeat (first | (with_reducible first | apply aw_seq | apply aw_reg | apply rp_nil | apply ae_norm) | ((with_reducible apply rp); first | ((with_reducible apply does_assign); (conv => lhs; whnf)) | ((with_reducible apply does_eq); exact rfl; exact rfl)))
    refine aw_cond rfl (fun h => (by cases h)) (fun _ => ?_)
    repeat (first | (with_reducible first | apply aw_seq | apply aw_reg | apply rp_nil | apply ae_norm) | ((with_reducible apply rp); first | ((with_reducible apply does_assign); (conv => lhs; whnf)) | ((with_reducible apply does_eq); exact rfl; exact rfl)))
    refine aw_cond rfl (fun _ => ?_) (fun h => (by cases h))
    repeat (first | (with_reducible first | apply aw_seq | apply aw_reg | apply rp_nil | apply ae_norm | apply be_norm | apply aw_ret | apply re_ret) | ((with_reducible apply rp); first | ((with_reducible apply does_call_flat); exact rfl; exact rfl; exact (p1); exact rfl) | ((with_reducible apply does_fieldAddr); exact tyOk rfl; exact rfl; exact rfl; decide; exact rfl) | ((with_reducible apply does_load_var); exact tyOk rfl; exact rfl; exact rfl; exact rfl; exact rfl) | ((with_reducible apply does_load_row); exact tyOk rfl; exact rfl; exact rfl; exact rfl; exact Nat.le_of_ble_eq_true rfl; exact rfl)) | ((with_reducible apply rpN); first | ((with_reducible apply does_store); exact tyOk rfl; exact rfl; exact rfl; (conv => lhs; whnf); exact rfl; exact rfl; exact Nat.le_of_ble_eq_true rfl) | ((with_reducible apply does_store_whole); exact tyOk rfl; exact rfl; exact rfl; exact rfl; exact rfl; exact rfl)))
    (with_reducible apply ret_ok); (focus (repeat' (first | (with_reducible apply rv_nil) | (with_reducible apply rv_cons) | ((with_reducible apply rv_rowd); exact rfl; exact rfl; exact tyOk rfl; exact rfl; exact rfl)))); exact rfl; refine SubD.of_eq ?_
    rfl
end Go.Proofs.YtfplkakfakdfhaaDoor


/-
  chirographkeep.some. No condition.
-/
namespace Go.Proofs.YtfplkakfakdfhaaDoor
set_option linter.unusedSimpArgs false
set_option linter.unusedVariables false
open Go.RowKit

abbrev rawsD (l : List Raw) : D := .sl 4 (l.map Raw.cs)
abbrev valsD (l : List Vl) : D := .sl 4 (l.map Vl.cs)
theorem take_min {α : Type} (l : List α) (m : Nat) : l.take (min l.length m) = l.take m := by
  rcases Nat.le_total l.length m with h | h
  · rw [Nat.min_eq_left h, List.take_of_length_le (Nat.le_refl _), List.take_of_length_le h]
  · rw [Nat.min_eq_right h]
theorem some_pc (l : List Raw) (m : Nat) : PC Tryd.prog 11 [rawsD l, iD m] (rawsD (l.take m)) := by
  refine pc_of_aw Tryd.func11 rfl (by kernel_rfl) mixed (by kernel_rfl) (by rw [Tryd.ntmps11]; exact Nat.le_of_ble_eq_true rfl) Tryd.results11 ?_
  repeat (first | (with_reducible first | apply aw_seq | apply aw_reg | apply rp_nil | apply ae_norm | apply aw_ret | apply re_ret) | ((with_reducible apply rp); first | (exact does_min_nat (a := l.length) (b := m) rfl rfl (by simp) rfl) | ((with_reducible apply does_move); (conv => lhs; whnf)) | ((with_reducible apply does_assign); (conv => lhs; whnf)) | ((with_reducible apply does_len_map); exact tyOk rfl; exact rfl; exact rfl) | ((with_reducible apply does_slice); exact tyOk rfl; exact rfl; exact tyOk rfl; exact rfl; exact rfl; (first | exact rfl | exact ⟨_, _, rfl, rfl⟩); (first | exact rfl | exact ⟨_, _, rfl, rfl⟩); (first | omega | (simp only [List.length_map, List.length_append, List.length_cons, List.length_nil] at *; omega)); (first | omega | (simp only [List.length_map, List.length_append, List.length_cons, List.length_nil] at *; omega)))))
  (with_reducible apply ret_ok); (focus (repeat' (first | (with_reducible apply rv_nil) | (with_reducible apply rv_cons) | ((with_reducible apply rv_tmp); exact rfl)))); exact rfl; refine SubD.of_eq ?_
  show D.sl 4 (List.drop 0 (List.take (min l.length m) (List.map Raw.cs l))) = D.sl 4 (List.map Raw.cs (List.take m l))
  rw [List.drop_zero, ← List.map_take, take_min]
end Go.Proofs.YtfplkakfakdfhaaDoor


/-
  chirographkeep's heap of raw things: Cols, next as contracts. No condition but the sizes.
-/
namespace Go.Proofs.YtfplkakfakdfhaaDoor
set_option linter.unusedSimpArgs false
set_option linter.unusedVariables false
open Go.RowKit

section
variable {P : Program} {fr : Nat} {dst : Option Nat} {ty : TypeId} {e : Operand → A} {β : Bx}
theorem does_frzV {op : Op} (t : Nat) {id n sz : Nat} {es : List (List D)} {v : A} {rd : List Nat} (hx : e (.tmp t) = .ow id n) (hro : rowsOf β id = some (sz, es))
    (h : Does P dst op ty (setE e t (.d (.sl sz es))) ([(id, .frz sz es)] ++ β) v [] rd) : Does P dst op ty e β v [(id, .frz sz es)] (id :: rd) := does_frz t hx hro h
end
theorem nil_sub (a : D) {b c d e f : D} : SubD (.ag [a, b, c, d, e, f, .nl]) (.ag [a, b, c, d, e, f, .sl 7 []]) :=
  SubD.ag (SubDs.cons (SubD.refl _) (fun h => h) (SubDs.cons (SubD.refl _) (fun h => h) (SubDs.cons (SubD.refl _) (fun h => h) (SubDs.cons (SubD.refl _) (fun h => h) (SubDs.cons (SubD.refl _) (fun h => h) (SubDs.cons (SubD.refl _) (fun h => h) (SubDs.cons (SubD.nil 7) (fun h => h) SubDs.nil)))))))
set_option maxHeartbeats 1000000 in
theorem cols_pc (l0 : List Raw) : PC Tryd.prog 9 [rawsD l0] (colsD (colsF l0)) := by
  have s1 := some_pc l0 3
  unfold colsF
  have hl : (l0.take 3).length ≤ 3 := by rw [List.length_take]; omega
  generalize l0.take 3 = l at *
  refine pc_of_aw Tryd.func9 rfl (by kernel_rfl) mixed (by kernel_rfl) (by rw [Tryd.ntmps9]; exact Nat.le_of_ble_eq_true rfl) Tryd.results9 ?_
  repeat (first | (with_reducible first | apply aw_seq | apply aw_reg | apply rp_nil | apply ae_norm | apply aw_block) | ((with_reducible apply rp); first | ((with_reducible apply does_call'); exact rfl; exact rfl; exact rfl; exact (s1)) | ((with_reducible apply does_move); (conv => lhs; whnf)) | ((with_reducible apply does_assign); (conv => lhs; whnf)) | ((with_reducible apply does_len_map); exact tyOk rfl; exact rfl; exact rfl) | ((with_reducible apply does_build); exact tyOk rfl; exact rfl; exact rfl; (focus repeat' (first | exact rfl | refine ⟨_, _, rfl, rfl, Nat.le_of_ble_eq_true rfl, rfl, ?_⟩)); exact rfl)) | ((with_reducible apply rp1); ((with_reducible apply does_buildSlice); exact tyOk rfl; exact rfl; exact tyOk rfl; exact rfl; exact rfl; (focus repeat' (first | exact trivial | refine And.intro rfl (And.intro rfl ?_))); decide; decide; exact rfl)))
  refine aw_loop (fun m s => ∃ k, k ≤ l.length ∧ m = l.length - k ∧ s = ⟨[(3, .ow 1000 (k + 1)), (9, .d (rawsD l)), (10, .d (iD l.length)), (11, .d (iD k))], [(1000, .row 63 3 ([strD kN, iD 2, bD false] :: (clsF 0 (l.take k)).map Cl.cs))]⟩) _ _ ?_ ⟨0, by omega, rfl, rfl⟩ ?_
  · refine forget_of [(1000, 7)] (by repeat' (first | exact ks_nil | (refine ks_cons rfl (by exact SubA.refl _) ?_))) ?_ rfl (by repeat' (first | exact trivial | exact inB_ow rfl | refine And.intro ?_ ?_)) (by repeat' (first | exact trivial | exact inB_ow rfl | refine And.intro ?_ ?_))
    exact kb_cons rfl (row_eq rfl) kb_nil
  · rintro m s ⟨k, hk, rfl, rfl⟩
    repeat (first | (with_reducible first | apply aw_seq | apply aw_reg | apply rp_nil | apply ae_norm) | ((with_reducible apply rp); ((with_reducible apply does_lt); exact rfl; exact rfl)))
    refine aw_cond rfl (fun hd => ?_) (fun hd => ?_)
    · have hlt : k < l.length := by simp at hd; omega
      clear hd s1
      obtain ⟨r, hr⟩ : ∃ r, l[k]? = some r := ⟨_, List.getElem?_eq_getElem hlt⟩
      have hr2 : (l.map Raw.cs)[k]? = some r.cs := by rw [List.getElem?_map, hr]; rfl
      have p1 := picked_pc r.kind 4 (by omega) (by omega)
      have p2 := picked_pc r.a 2 (by omega) (by omega)
      have e1 : (clsF 0 (l.take (k + 1))).map Cl.cs = (clsF 0 (l.take k)).map Cl.cs ++ [(clF k r).cs] := by
        rw [List.take_add_one, hr]
        show (clsF 0 (l.take k ++ [r])).map Cl.cs = _
        rw [clsF_app, List.map_append, List.length_take]
        have e : 0 + min k l.length = k := by omega
        rw [e]
        rfl
      have l1 : ((clsF 0 (l.take k)).map Cl.cs).length = k := by rw [List.length_map, clsF_len, List.length_take]; omega
      generalize (clsF 0 (l.take k)).map Cl.cs = o at *
      obtain ⟨rk, ra, rb, rt⟩ := r
      unfold Raw.cs at hr2
      unfold clF at e1
      dsimp only at *
      obtain ⟨u, hu⟩ : ∃ u : Nat, rk % ((4 : Nat) : Int) = u := ⟨(rk % 4).toNat, by omega⟩
      rw [hu] at p1
      have hu2 : (rk % 4).toNat = u := by omega
      rw [hu2] at e1
      have hv : (ra % ((2 : Nat) : Int) == 0) = decide (ra % 2 = 0) := by rw [Bool.eq_iff_iff, beq_iff_eq, decide_eq_true_eq]; omega
      repeat (first | (with_reducible first | apply aw_seq | apply aw_reg | apply rp_nil | apply ae_norm | apply aw_regD | apply aw_block | apply be_norm | apply aw_skip) | ((with_reducible apply dr_nil); (first | kernel_rfl | exact rfl)) | ((with_reducible first | apply rp | apply dr); first | ((with_reducible apply does_call_flat); exact rfl; exact rfl; exact (p1); exact rfl) | ((with_reducible apply does_call_flat); exact rfl; exact rfl; exact (p2); exact rfl) | (exact does_add_to (z := ((1 + u : Nat) : Int)) rfl rfl (by omega) (by omega) (by omega)) | (exact does_slice_str (s := abcN) (l := k) (h := k + 1) (tyOk rfl) rfl rfl ⟨_, _, rfl, rfl⟩ ⟨_, _, rfl, rfl⟩ (by omega) (show k + 1 ≤ 3 by omega)) | ((with_reducible apply does_move); (conv => lhs; whnf)) | ((with_reducible apply does_assign); (conv => lhs; whnf)) | ((with_reducible apply does_fieldAddr); exact tyOk rfl; exact rfl; exact rfl; decide; exact rfl) | ((with_reducible apply does_load_var); exact tyOk rfl; exact rfl; exact rfl; exact rfl; exact rfl) | ((with_reducible apply does_load_elem_whole); exact tyOk rfl; exact rfl; exact rfl; assumption; exact rfl) | ((with_reducible apply does_index_sl); exact tyOk rfl; exact rfl; exact tyOk rfl; exact rfl; exact rfl; exact rfl; exact rfl; (first | (dsimp only; simp only [List.length_map, List.length_append, List.length_cons, List.length_nil] at *; omega) | (simp only [List.length_map, List.length_append, List.length_cons, List.length_nil] at *; omega))) | ((with_reducible apply does_eq); exact rfl; exact rfl) | ((with_reducible apply does_add); exact rfl; exact rfl; omega; omega) | ((with_reducible apply does_build); exact tyOk rfl; exact rfl; exact rfl; (focus repeat' (first | exact rfl | refine ⟨_, _, rfl, rfl, Nat.le_of_ble_eq_true rfl, rfl, ?_⟩)); exact rfl)) | ((with_reducible first | apply rp1 | apply dr1); first | ((with_reducible apply does_alloc); exact tyOk rfl; exact rfl) | ((with_reducible apply does_buildSlice); exact tyOk rfl; exact rfl; exact tyOk rfl; exact rfl; exact rfl; (focus repeat' (first | exact trivial | refine And.intro rfl (And.intro rfl ?_))); decide; decide; exact rfl)) | ((with_reducible apply dr2); ((with_reducible apply does_append_own); exact tyOk rfl; exact rfl; exact tyOk rfl; exact rfl; exact rfl; exact rfl; decide; (first | (dsimp only; simp only [List.length_map, List.length_append, List.length_cons, List.length_nil] at *; omega) | (simp only [List.length_map, List.length_append, List.length_cons, List.length_nil] at *; omega)); (first | (dsimp only; simp only [List.length_map, List.length_append, List.length_cons, List.length_nil] at *; omega) | (simp only [List.length_map, List.length_append, List.length_cons, List.length_nil] at *; omega)); exact rfl)) | ((with_reducible apply rpN); ((with_reducible apply does_store_whole); exact tyOk rfl; exact rfl; exact rfl; exact rfl; exact rfl; exact rfl)))
      refine ⟨_, _, ?_, ?_, k + 1, by omega, rfl, rfl⟩
      · omega
      · rw [e1]
        refine forget_of [(1000, 31)] (by repeat' (first | exact ks_nil | (refine ks_cons rfl (by (first | exact SubA.refl _ | exact subA_ow (by (simp; omega)))) ?_))) ?_ rfl (by repeat' (first | exact trivial | exact inB_ow rfl | refine And.intro ?_ ?_)) (by repeat' (first | exact trivial | exact inB_ow rfl | refine And.intro ?_ ?_))
        exact kb_cons rfl (row_eq (by rw [hv]; rfl)) kb_nil
    · have hke : k = l.length := by simp at hd; omega
      clear hd
      subst hke
      repeat (first | (with_reducible first | apply aw_seq | apply aw_reg | apply rp_nil | apply ae_norm | apply aw_exit | apply ae_exit | apply be_exit | apply aw_ret | apply re_ret) | ((with_reducible apply rp); first | ((with_reducible apply does_move); (conv => lhs; whnf)) | ((with_reducible apply does_assign); (conv => lhs; whnf))))
      (with_reducible apply ret_ok); (focus (repeat' (first | (with_reducible apply rv_nil) | (with_reducible apply rv_cons) | ((with_reducible apply rv_tmp); exact rfl)))); exact rfl; refine SubD.of_eq ?_
      rw [List.take_length]
      rfl
abbrev hpB (l : List Raw) (n : Nat) (cols : List Cl) : Nat × Box := (1000, .var 40 [.d (rawsD l), .d (iD n), .d (colsD cols)])
set_option maxHeartbeats 1000000 in
theorem next_px (l : List Raw) (n : Nat) (cols : List Cl) (hn : n ≤ 4611686018427387904) : PX Tryd.prog 20 [.px 1000 0] [hpB l n cols] [] (.ag (nextF l n).cs) [hpB l (n + 1) cols] [] := by
  unfold hpB nextF
  by_cases hl : l = []
  · subst hl
    refine pxf_of_aw Tryd.func20 rfl (by kernel_rfl) mixed (by kernel_rfl) (by rw [Tryd.ntmps20]; exact Nat.le_of_ble_eq_true rfl) Tryd.results20 rfl ?_
    repeat (first | (with_reducible first | apply aw_seq | apply aw_reg | apply rp_nil | apply ae_norm | apply aw_regD | apply aw_ret | apply ae_ret | apply xf_ret) | ((with_reducible apply dr_nil); (first | kernel_rfl | exact rfl)) | ((with_reducible first | apply rp | apply dr); first | ((with_reducible apply does_move); (conv => lhs; whnf)) | ((with_reducible apply does_fieldAddr); exact tyOk rfl; exact rfl; exact rfl; decide; exact rfl) | ((with_reducible apply does_load_var); exact tyOk rfl; exact rfl; exact rfl; exact rfl; exact rfl) | ((with_reducible apply does_eq); exact rfl; exact rfl) | ((with_reducible apply does_add); exact rfl; exact rfl; omega; omega) | ((with_reducible apply does_len_map); exact tyOk rfl; exact rfl; exact rfl) | ((with_reducible apply does_build); exact tyOk rfl; exact rfl; exact rfl; (focus repeat' (first | exact rfl | refine ⟨_, _, rfl, rfl, Nat.le_of_ble_eq_true rfl, rfl, ?_⟩)); exact rfl) | ((with_reducible apply does_nilCheck); exact rfl)) | ((with_reducible apply rp1); ((with_reducible apply does_alloc); exact tyOk rfl; exact rfl)) | ((with_reducible first | apply rpN | apply drN); first | ((with_reducible apply does_store); exact tyOk rfl; exact rfl; exact rfl; (conv => lhs; whnf); exact rfl; exact rfl; exact Nat.le_of_ble_eq_true rfl) | ((with_reducible apply does_store_whole); exact tyOk rfl; exact rfl; exact rfl; exact rfl; exact rfl; exact rfl)) | ((with_reducible apply aw_cond); exact rfl; rotate_left; (focus (intro hd; (cases hd; done))); (intro hd; clear hd)))
    (with_reducible apply retxf_ok (l := [])); (focus (repeat' (first | (with_reducible apply rv_nil) | (with_reducible apply rv_cons) | ((with_reducible apply rv_rowd); exact rfl; exact rfl; exact tyOk rfl; exact rfl; exact rfl)))); exact rfl; exact SubD.refl _; refine ⟨(by repeat' (first | exact ks_nil | (refine ks_cons rfl (by exact SubA.refl _) ?_))), (by repeat' (first | exact trivial | exact rfl | refine And.intro ?_ ?_)), rfl, (by repeat' (first | exact trivial | exact inB_px rfl | refine And.intro ?_ ?_)), (by repeat' (first | exact trivial | exact inB_px rfl | refine And.intro ?_ ?_))⟩
  · have hp : 0 < l.length := List.length_pos_iff.2 hl
    have hlt : n % l.length < l.length := Nat.mod_lt _ hp
    obtain ⟨r, hr⟩ : ∃ r, l[n % l.length]? = some r := ⟨_, List.getElem?_eq_getElem hlt⟩
    rw [hr]
    have hr2 : (l.map Raw.cs)[n % l.length]? = some r.cs := by rw [List.getElem?_map, hr]; rfl
    obtain ⟨rk, ra, rb, rt⟩ := r
    unfold Raw.cs at *
    dsimp only at *
    refine pxf_of_aw Tryd.func20 rfl (by kernel_rfl) mixed (by kernel_rfl) (by rw [Tryd.ntmps20]; exact Nat.le_of_ble_eq_true rfl) Tryd.results20 rfl ?_
    repeat (first | (with_reducible first | apply aw_seq | apply aw_reg | apply rp_nil | apply ae_norm | apply aw_regD | apply aw_ret | apply xf_ret | apply aw_skip) | ((with_reducible apply dr_nil); (first | kernel_rfl | exact rfl)) | ((with_reducible first | apply rp | apply dr); first | (exact does_rem_to (m := n) (n := l.length) rfl (by omega) rfl rfl hp) | (exact does_quo_to (m := n + 1) (n := l.length) rfl rfl rfl hp (by omega)) | ((with_reducible apply does_move); (conv => lhs; whnf)) | ((with_reducible apply does_fieldAddr); exact tyOk rfl; exact rfl; exact rfl; decide; exact rfl) | ((with_reducible apply does_load_var); exact tyOk rfl; exact rfl; exact rfl; exact rfl; exact rfl) | ((with_reducible apply does_load_row); exact tyOk rfl; exact rfl; exact rfl; exact rfl; exact Nat.le_of_ble_eq_true rfl; exact rfl) | ((with_reducible apply does_load_elem_whole); exact tyOk rfl; exact rfl; exact rfl; assumption; exact rfl) | ((with_reducible apply does_index_sl); exact tyOk rfl; exact rfl; exact tyOk rfl; exact rfl; exact rfl; exact rfl; exact rfl; (simp only [List.length_map, List.length_append, List.length_cons, List.length_nil] at *; omega)) | ((with_reducible apply does_eq); exact rfl; exact rfl) | ((with_reducible apply does_add); exact rfl; exact rfl; omega; omega) | ((with_reducible apply does_sub); exact rfl; exact rfl; omega; omega) | ((with_reducible apply does_wadd); exact rfl; exact rfl) | ((with_reducible apply does_len_map); exact tyOk rfl; exact rfl; exact rfl) | ((with_reducible apply does_nilCheck); exact rfl)) | ((with_reducible first | apply rp1 | apply dr1); ((with_reducible apply does_alloc); exact tyOk rfl; exact rfl)) | ((with_reducible first | apply rpN | apply drN); first | ((with_reducible apply does_store); exact tyOk rfl; exact rfl; exact rfl; (conv => lhs; whnf); exact rfl; exact rfl; exact Nat.le_of_ble_eq_true rfl) | ((with_reducible apply does_store_whole); exact tyOk rfl; exact rfl; exact rfl; exact rfl; exact rfl; exact rfl)) | ((with_reducible apply aw_cond); exact rfl; (focus (intro hd; (exfalso; simp at hd; contradiction))); (intro hd; clear hd)))
    (with_reducible apply retxf_ok (l := [])); (focus (repeat' (first | (with_reducible apply rv_nil) | (with_reducible apply rv_cons) | ((with_reducible apply rv_rowd); exact rfl; exact rfl; exact tyOk rfl; exact rfl; exact rfl)))); exact rfl; exact SubD.refl _; refine ⟨(by repeat' (first | exact ks_nil | (refine ks_cons rfl (by exact SubA.refl _) ?_))), (by repeat' (first | exact trivial | exact rfl | refine And.intro ?_ ?_)), rfl, (by repeat' (first | exact trivial | exact inB_px rfl | refine And.intro ?_ ?_)), (by repeat' (first | exact trivial | exact inB_px rfl | refine And.intro ?_ ?_))⟩
end Go.Proofs.YtfplkakfakdfhaaDoor


/-
  chirographkeep.heapOf. No condition.
-/
namespace Go.Proofs.YtfplkakfakdfhaaDoor
set_option linter.unusedSimpArgs false
set_option linter.unusedVariables false
open Go.RowKit

abbrev colsH (l : List Raw) : List Cl := colsF (l.take (l.length % 4))
set_option maxHeartbeats 1000000 in
theorem heapOf_pg (l : List Raw) : PG Tryd.prog 4 [.d (rawsD l)] [] [] (.px 2000 0) [] [(2000, .var 40 [.d (rawsD (l.take 40)), .d (iD 0), .d (colsD (colsF (l.take (l.length % 4))))])] := by
  have s1 := some_pc l 40
  have hm : (l.length : Int) % ((4 : Nat) : Int) = ((l.length % 4 : Nat) : Int) := by omega
  have p1 := picked_pc (l.length : Int) 4 (by omega) (by omega)
  rw [hm] at p1
  have s2 := some_pc l (l.length % 4)
  have c1 := cols_pc (l.take (l.length % 4))
  generalize l.take (l.length % 4) = q at *
  generalize l.take 40 = t at *
  generalize colsF q = cs at *
  refine pg_of_aw Tryd.func4 rfl (by kernel_rfl) mixed (by kernel_rfl) (by rw [Tryd.ntmps4]; exact Nat.le_of_ble_eq_true rfl) Tryd.results4 rfl ?_
  repeat (first | (with_reducible first | apply aw_seq | apply aw_reg | apply rp_nil | apply ae_norm | apply aw_ret | apply xg_ret) | ((with_reducible apply rp); first | ((with_reducible apply does_call'); exact rfl; exact rfl; exact rfl; exact (s1)) | ((with_reducible apply does_call_flat); exact rfl; exact rfl; exact (p1); exact rfl) | ((with_reducible apply does_call'); exact rfl; exact rfl; exact rfl; exact (s2)) | ((with_reducible apply does_call'); exact rfl; exact rfl; exact rfl; exact (c1)) | ((with_reducible apply does_move); (conv => lhs; whnf)) | ((with_reducible apply does_assign); (conv => lhs; whnf)) | ((with_reducible apply does_len_map); exact tyOk rfl; exact rfl; exact rfl) | ((with_reducible apply does_build); exact tyOk rfl; exact rfl; exact rfl; (focus repeat' (first | exact rfl | refine ⟨_, _, rfl, rfl, Nat.le_of_ble_eq_true rfl, rfl, ?_⟩)); exact rfl)) | ((with_reducible apply rp1); ((with_reducible apply does_box_ag); exact rfl; exact rfl)))
  (with_reducible apply retg_ok (l := [(2000, 12)])); (focus (repeat' (first | (with_reducible apply rv_nil) | (with_reducible apply rv_cons) | ((with_reducible apply rv_tmp); exact rfl)))); rotate_left; refine ⟨(by repeat' exact ks_nil), (by repeat' (first | exact trivial | exact rfl | refine And.intro ?_ ?_)), rfl, (by repeat' (first | exact trivial | refine And.intro ?_ ?_)), (by repeat' (first | exact trivial | refine And.intro ?_ ?_))⟩; refine SubA.of_eq ?_
  rfl
end Go.Proofs.YtfplkakfakdfhaaDoor

