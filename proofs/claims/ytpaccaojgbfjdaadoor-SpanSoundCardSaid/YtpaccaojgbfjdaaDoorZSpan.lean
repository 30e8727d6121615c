/-
  chirograph/span: literal, turned, bounds, of, Of; chirographkeep's bound, spanTells, as contracts. No condition but that the expression may be.
-/
import Derived.Test.YtpaccaojgbfjdaaDoorZSpanF
namespace Go.Proofs.YtpaccaojgbfjdaaDoor
set_option linter.unusedSimpArgs false
set_option linter.unusedVariables false
open Go.RowKit
open Go.Lib

abbrev rgD (r : Int × Int) : D := .ag [iD r.1, iD r.2]
theorem none_pc : PC Tryd.prog 51 [] (rgD (1, 0)) := by
  refine pc_of_aw Tryd.func51 rfl (by kernel_rfl) mixed (by kernel_rfl) (by rw [Tryd.ntmps51]; exact Nat.le_of_ble_eq_true rfl) Tryd.results51 ?_
  repeat (first | (with_reducible first | apply aw_seq | apply aw_reg | apply rp_nil | apply ae_norm | apply aw_ret | apply re_ret) | ((with_reducible apply rp); ((with_reducible apply does_build); exact tyOk rfl; exact rfl; exact rfl; (focus repeat' (first | exact rfl | refine ⟨_, _, rfl, rfl, Nat.le_of_ble_eq_true rfl, rfl, ?_⟩)); exact rfl)) | ((with_reducible apply rp1); ((with_reducible apply does_alloc); exact tyOk rfl; exact rfl)) | ((with_reducible apply rpN); ((with_reducible apply does_store_whole); exact tyOk rfl; exact rfl; exact rfl; exact rfl; exact rfl; exact rfl)))
  (with_reducible apply ret_ok); (focus (repeat' (first | (with_reducible apply rv_nil) | (with_reducible apply rv_cons) | ((with_reducible apply rv_rowd); exact rfl; exact rfl; exact tyOk rfl; exact rfl; exact rfl)))); exact rfl; refine SubD.of_eq ?_
  rfl
theorem turned_pc (op : Nat) : PC Tryd.prog 79 [iD op] (iD (turnF op)) := by
  unfold turnF
  by_cases h1 : op = 11
  · subst h1
    rw [if_pos rfl]
    refine pc_of_aw Tryd.func79 rfl (by kernel_rfl) mixed (by kernel_rfl) (by rw [Tryd.ntmps79]; exact Nat.le_of_ble_eq_true rfl) Tryd.results79 ?_
    repeat (first | (with_reducible first | apply aw_seq | apply aw_reg | apply rp_nil | apply ae_norm | apply aw_block | apply aw_ret | apply ae_ret | apply be_ret | apply re_ret) | ((with_reducible apply rp); first | ((with_reducible apply does_move); (conv => lhs; whnf)) | ((with_reducible apply does_assign); (conv => lhs; whnf)) | ((with_reducible apply does_eq); exact rfl; exact rfl)) | ((with_reducible apply aw_cond); exact rfl; rotate_left; (focus (intro hd; (cases hd; done))); (intro hd; clear hd)))
    (with_reducible apply ret_ok); (focus (repeat' (first | (with_reducible apply rv_nil) | (with_reducible apply rv_cons) | ((with_reducible apply rv_tmp); exact rfl)))); exact rfl; refine SubD.of_eq ?_
    rfl
  rw [if_neg h1]
  by_cases h2 : op = 12
  · subst h2
    rw [if_pos rfl]
    refine pc_of_aw Tryd.func79 rfl (by kernel_rfl) mixed (by kernel_rfl) (by rw [Tryd.ntmps79]; exact Nat.le_of_ble_eq_true rfl) Tryd.results79 ?_
    repeat (first | (with_reducible first | apply aw_seq | apply aw_reg | apply rp_nil | apply ae_norm | apply aw_block | apply aw_ret | apply ae_ret | apply be_ret | apply re_ret) | ((with_reducible apply rp); first | ((with_reducible apply does_move); (conv => lhs; whnf)) | ((with_reducible apply does_assign); (conv => lhs; whnf)) | ((with_reducible apply does_eq); exact rfl; exact rfl)) | ((with_reducible apply aw_cond); exact rfl; (focus (intro hd; (cases hd; done))); (intro hd; clear hd)) | ((with_reducible apply aw_cond); exact rfl; rotate_left; (focus (intro hd; (cases hd; done))); (intro hd; clear hd)))
    (with_reducible apply ret_ok); (focus (repeat' (first | (with_reducible apply rv_nil) | (with_reducible apply rv_cons) | ((with_reducible apply rv_tmp); exact rfl)))); exact rfl; refine SubD.of_eq ?_
    rfl
  rw [if_neg h2]
  by_cases h3 : op = 13
  · subst h3
    rw [if_pos rfl]
    refine pc_of_aw Tryd.func79 rfl (by kernel_rfl) mixed (by kernel_rfl) (by rw [Tryd.ntmps79]; exact Nat.le_of_ble_eq_true rfl) Tryd.results79 ?_
    repeat (first | (with_reducible first | apply aw_seq | apply aw_reg | apply rp_nil | apply ae_norm | apply aw_block | apply aw_ret | apply ae_ret | apply be_ret | apply re_ret) | ((with_reducible apply rp); first | ((with_reducible apply does_move); (conv => lhs; whnf)) | ((with_reducible apply does_assign); (conv => lhs; whnf)) | ((with_reducible apply does_eq); exact rfl; exact rfl)) | ((with_reducible apply aw_cond); exact rfl; (focus (intro hd; (cases hd; done))); (intro hd; clear hd)) | ((with_reducible apply aw_cond); exact rfl; rotate_left; (focus (intro hd; (cases hd; done))); (intro hd; clear hd)))
    (with_reducible apply ret_ok); (focus (repeat' (first | (with_reducible apply rv_nil) | (with_reducible apply rv_cons) | ((with_reducible apply rv_tmp); exact rfl)))); exact rfl; refine SubD.of_eq ?_
    rfl
  rw [if_neg h3]
  by_cases h4 : op = 14
  · subst h4
    rw [if_pos rfl]
    refine pc_of_aw Tryd.func79 rfl (by kernel_rfl) mixed (by kernel_rfl) (by rw [Tryd.ntmps79]; exact Nat.le_of_ble_eq_true rfl) Tryd.results79 ?_
    repeat (first | (with_reducible first | apply aw_seq | apply aw_reg | apply rp_nil | apply ae_norm | apply aw_block | apply aw_ret | apply ae_ret | apply be_ret | apply re_ret) | ((with_reducible apply rp); first | ((with_reducible apply does_move); (conv => lhs; whnf)) | ((with_reducible apply does_assign); (conv => lhs; whnf)) | ((with_reducible apply does_eq); exact rfl; exact rfl)) | ((with_reducible apply aw_cond); exact rfl; (focus (intro hd; (cases hd; done))); (intro hd; clear hd)) | ((with_reducible apply aw_cond); exact rfl; rotate_left; (focus (intro hd; (cases hd; done))); (intro hd; clear hd)))
    (with_reducible apply ret_ok); (focus (repeat' (first | (with_reducible apply rv_nil) | (with_reducible apply rv_cons) | ((with_reducible apply rv_tmp); exact rfl)))); exact rfl; refine SubD.of_eq ?_
    rfl
  rw [if_neg h4]
  refine pc_of_aw Tryd.func79 rfl (by kernel_rfl) mixed (by kernel_rfl) (by rw [Tryd.ntmps79]; exact Nat.le_of_ble_eq_true rfl) Tryd.results79 ?_
  repeat (first | (with_reducible first | apply aw_seq | apply aw_reg | apply rp_nil | apply ae_norm | apply aw_block | apply be_norm | apply aw_ret | apply re_ret | apply aw_skip) | ((with_reducible apply rp); first | ((with_reducible apply does_move); (conv => lhs; whnf)) | ((with_reducible apply does_assign); (conv => lhs; whnf)) | ((with_reducible apply does_eq); exact rfl; exact rfl)) | ((with_reducible apply aw_cond); exact rfl; (focus (intro hd; (exfalso; simp at hd; omega))); (intro hd; clear hd)))
  (with_reducible apply ret_ok); (focus (repeat' (first | (with_reducible apply rv_nil) | (with_reducible apply rv_cons) | ((with_reducible apply rv_tmp); exact rfl)))); exact rfl; refine SubD.of_eq ?_
  rfl
set_option maxHeartbeats 2000000 in
theorem bounds_pc (op : Nat) (h : 9 ≤ op ∧ op ≤ 14) (n : Int) (hn : I64 n) : PC Tryd.prog 78 [iD op, iD n] (rgD (boundF op n)) := by
  have z1 := none_pc
  have m1 : minI = -9223372036854775808 := rfl
  have m2 : maxI = 9223372036854775807 := rfl
  unfold I64 at hn
  unfold boundF
  rw [m1, m2]
  rcases (by omega : op = 9 ∨ op = 10 ∨ op = 11 ∨ op = 12 ∨ op = 13 ∨ op = 14) with rfl | rfl | rfl | rfl | rfl | rfl
  · refine pc_of_aw Tryd.func78 rfl (by kernel_rfl) mixed (by kernel_rfl) (by rw [Tryd.ntmps78]; exact Nat.le_of_ble_eq_true rfl) Tryd.results78 ?_
    repeat (first | (with_reducible first | apply aw_seq | apply aw_reg | apply rp_nil | apply ae_norm | apply aw_block | apply be_norm | apply aw_ret | apply re_ret) | ((with_reducible apply rp); first | ((with_reducible apply does_move); (conv => lhs; whnf)) | ((with_reducible apply does_assign); (conv => lhs; whnf)) | ((with_reducible apply does_load_row); exact tyOk rfl; exact rfl; exact rfl; exact rfl; exact Nat.le_of_ble_eq_true rfl; exact rfl) | ((with_reducible apply does_eq); exact rfl; exact rfl) | ((with_reducible apply does_build); exact tyOk rfl; exact rfl; exact rfl; (focus repeat' (first | exact rfl | refine ⟨_, _, rfl, rfl, Nat.le_of_ble_eq_true rfl, rfl, ?_⟩)); exact rfl)) | ((with_reducible apply rp1); ((with_reducible apply does_alloc); exact tyOk rfl; exact rfl)) | ((with_reducible apply rpN); ((with_reducible apply does_store_whole); exact tyOk rfl; exact rfl; exact rfl; exact rfl; exact rfl; exact rfl)) | ((with_reducible apply aw_cond); exact rfl; rotate_left; (focus (intro hd; (cases hd; done))); (intro hd; clear hd)))
    (with_reducible apply ret_ok); (focus (repeat' (first | (with_reducible apply rv_nil) | (with_reducible apply rv_cons) | ((with_reducible apply rv_rowd); exact rfl; exact rfl; exact tyOk rfl; exact rfl; exact rfl)))); exact rfl; refine SubD.of_eq ?_
    rfl
  · refine pc_of_aw Tryd.func78 rfl (by kernel_rfl) mixed (by kernel_rfl) (by rw [Tryd.ntmps78]; exact Nat.le_of_ble_eq_true rfl) Tryd.results78 ?_
    repeat (first | (with_reducible first | apply aw_seq | apply aw_reg | apply rp_nil | apply ae_norm | apply aw_block | apply be_norm | apply aw_ret | apply re_ret | apply aw_skip) | ((with_reducible apply rp); first | ((with_reducible apply does_move); (conv => lhs; whnf)) | ((with_reducible apply does_assign); (conv => lhs; whnf)) | ((with_reducible apply does_load_row); exact tyOk rfl; exact rfl; exact rfl; exact rfl; exact Nat.le_of_ble_eq_true rfl; exact rfl) | ((with_reducible apply does_eq); exact rfl; exact rfl) | ((with_reducible apply does_build); exact tyOk rfl; exact rfl; exact rfl; (focus repeat' (first | exact rfl | refine ⟨_, _, rfl, rfl, Nat.le_of_ble_eq_true rfl, rfl, ?_⟩)); exact rfl)) | ((with_reducible apply rp1); ((with_reducible apply does_alloc); exact tyOk rfl; exact rfl)) | ((with_reducible apply rpN); ((with_reducible apply does_store_whole); exact tyOk rfl; exact rfl; exact rfl; exact rfl; exact rfl; exact rfl)) | ((with_reducible apply aw_cond); exact rfl; (focus (intro hd; (cases hd; done))); (intro hd; clear hd)))
    (with_reducible apply ret_ok); (focus (repeat' (first | (with_reducible apply rv_nil) | (with_reducible apply rv_cons) | ((with_reducible apply rv_rowd); exact rfl; exact rfl; exact tyOk rfl; exact rfl; exact rfl)))); exact rfl; refine SubD.of_eq ?_
    rfl
  · by_cases hm : n = -9223372036854775808
    · subst hm
      refine pc_of_aw Tryd.func78 rfl (by kernel_rfl) mixed (by kernel_rfl) (by rw [Tryd.ntmps78]; exact Nat.le_of_ble_eq_true rfl) Tryd.results78 ?_
      repeat (first | (with_reducible first | apply aw_seq | apply aw_reg | apply rp_nil | apply ae_norm | apply aw_block | apply aw_ret | apply ae_ret | apply be_ret | apply re_ret) | ((with_reducible apply rp); first | ((with_reducible apply does_call_flat); exact rfl; exact rfl; exact (z1); exact rfl) | ((with_reducible apply does_move); (conv => lhs; whnf)) | ((with_reducible apply does_assign); (conv => lhs; whnf)) | ((with_reducible apply does_eq); exact rfl; exact rfl) | ((with_reducible apply does_build); exact tyOk rfl; exact rfl; exact rfl; (focus repeat' (first | exact rfl | refine ⟨_, _, rfl, rfl, Nat.le_of_ble_eq_true rfl, rfl, ?_⟩)); exact rfl)) | ((with_reducible apply rp1); ((with_reducible apply does_alloc); exact tyOk rfl; exact rfl)) | ((with_reducible apply rpN); ((with_reducible apply does_store_whole); exact tyOk rfl; exact rfl; exact rfl; exact rfl; exact rfl; exact rfl)) | ((with_reducible apply aw_cond); exact rfl; (focus (intro hd; (cases hd; done))); (intro hd; clear hd)) | ((with_reducible apply aw_cond); exact rfl; rotate_left; (focus (intro hd; (cases hd; done))); (intro hd; clear hd)))
      (with_reducible apply ret_ok); (focus (repeat' (first | (with_reducible apply rv_nil) | (with_reducible apply rv_cons) | ((with_reducible apply rv_rowd); exact rfl; exact rfl; exact tyOk rfl; exact rfl; exact rfl)))); exact rfl; refine SubD.of_eq ?_
      rfl
    · rw [if_neg (by decide), if_pos rfl, if_neg hm]
      refine pc_of_aw Tryd.func78 rfl (by kernel_rfl) mixed (by kernel_rfl) (by rw [Tryd.ntmps78]; exact Nat.le_of_ble_eq_true rfl) Tryd.results78 ?_
      repeat (first | (with_reducible first | apply aw_seq | apply aw_reg | apply rp_nil | apply ae_norm | apply aw_block | apply be_norm | apply aw_ret | apply re_ret | apply aw_skip) | ((with_reducible apply rp); first | (exact does_sub_to (z := n - 1) rfl rfl rfl (by omega) (by omega)) | ((with_reducible apply does_move); (conv => lhs; whnf)) | ((with_reducible apply does_assign); (conv => lhs; whnf)) | ((with_reducible apply does_fieldAddr); exact tyOk rfl; exact rfl; exact rfl; decide; exact rfl) | ((with_reducible apply does_load_row); exact tyOk rfl; exact rfl; exact rfl; exact rfl; exact Nat.le_of_ble_eq_true rfl; exact rfl) | ((with_reducible apply does_eq); exact rfl; exact rfl) | ((with_reducible apply does_build); exact tyOk rfl; exact rfl; exact rfl; (focus repeat' (first | exact rfl | refine ⟨_, _, rfl, rfl, Nat.le_of_ble_eq_true rfl, rfl, ?_⟩)); exact rfl)) | ((with_reducible apply rp1); ((with_reducible apply does_alloc); exact tyOk rfl; exact rfl)) | ((with_reducible apply rpN); first | ((with_reducible apply does_store); exact tyOk rfl; exact rfl; exact rfl; (conv => lhs; whnf); exact rfl; exact rfl; exact Nat.le_of_ble_eq_true rfl) | ((with_reducible apply does_store_whole); exact tyOk rfl; exact rfl; exact rfl; exact rfl; exact rfl; exact rfl)) | ((with_reducible apply aw_cond); exact rfl; (focus (intro hd; (first | (cases hd; done) | (exfalso; simp at hd; omega)))); (intro hd; clear hd)) | ((with_reducible apply aw_cond); exact rfl; rotate_left; (focus (intro hd; (first | (cases hd; done) | (exfalso; simp at hd; omega)))); (intro hd; clear hd)))
      (with_reducible apply ret_ok); (focus (repeat' (first | (with_reducible apply rv_nil) | (with_reducible apply rv_cons) | ((with_reducible apply rv_rowd); exact rfl; exact rfl; exact tyOk rfl; exact rfl; exact rfl)))); exact rfl; refine SubD.of_eq ?_
      rfl
  · refine pc_of_aw Tryd.func78 rfl (by kernel_rfl) mixed (by kernel_rfl) (by rw [Tryd.ntmps78]; exact Nat.le_of_ble_eq_true rfl) Tryd.results78 ?_
    repeat (first | (with_reducible first | apply aw_seq | apply aw_reg | apply rp_nil | apply ae_norm | apply aw_block | apply be_norm | apply aw_ret | apply re_ret) | ((with_reducible apply rp); first | ((with_reducible apply does_move); (conv => lhs; whnf)) | ((with_reducible apply does_assign); (conv => lhs; whnf)) | ((with_reducible apply does_fieldAddr); exact tyOk rfl; exact rfl; exact rfl; decide; exact rfl) | ((with_reducible apply does_load_row); exact tyOk rfl; exact rfl; exact rfl; exact rfl; exact Nat.le_of_ble_eq_true rfl; exact rfl) | ((with_reducible apply does_eq); exact rfl; exact rfl) | ((with_reducible apply does_build); exact tyOk rfl; exact rfl; exact rfl; (focus repeat' (first | exact rfl | refine ⟨_, _, rfl, rfl, Nat.le_of_ble_eq_true rfl, rfl, ?_⟩)); exact rfl)) | ((with_reducible apply rp1); ((with_reducible apply does_alloc); exact tyOk rfl; exact rfl)) | ((with_reducible apply rpN); first | ((with_reducible apply does_store); exact tyOk rfl; exact rfl; exact rfl; (conv => lhs; whnf); exact rfl; exact rfl; exact Nat.le_of_ble_eq_true rfl) | ((with_reducible apply does_store_whole); exact tyOk rfl; exact rfl; exact rfl; exact rfl; exact rfl; exact rfl)) | ((with_reducible apply aw_cond); exact rfl; (focus (intro hd; (cases hd; done))); (intro hd; clear hd)) | ((with_reducible apply aw_cond); exact rfl; rotate_left; (focus (intro hd; (cases hd; done))); (intro hd; clear hd)))
    (with_reducible apply ret_ok); (focus (repeat' (first | (with_reducible apply rv_nil) | (with_reducible apply rv_cons) | ((with_reducible apply rv_rowd); exact rfl; exact rfl; exact tyOk rfl; exact rfl; exact rfl)))); exact rfl; refine SubD.of_eq ?_
    rfl
  · by_cases hm : n = 9223372036854775807
    · subst hm
      refine pc_of_aw Tryd.func78 rfl (by kernel_rfl) mixed (by kernel_rfl) (by rw [Tryd.ntmps78]; exact Nat.le_of_ble_eq_true rfl) Tryd.results78 ?_
      repeat (first | (with_reducible first | apply aw_seq | apply aw_reg | apply rp_nil | apply ae_norm | apply aw_block | apply aw_ret | apply ae_ret | apply be_ret | apply re_ret) | ((with_reducible apply rp); first | ((with_reducible apply does_call_flat); exact rfl; exact rfl; exact (z1); exact rfl) | ((with_reducible apply does_move); (conv => lhs; whnf)) | ((with_reducible apply does_assign); (conv => lhs; whnf)) | ((with_reducible apply does_eq); exact rfl; exact rfl) | ((with_reducible apply does_build); exact tyOk rfl; exact rfl; exact rfl; (focus repeat' (first | exact rfl | refine ⟨_, _, rfl, rfl, Nat.le_of_ble_eq_true rfl, rfl, ?_⟩)); exact rfl)) | ((with_reducible apply rp1); ((with_reducible apply does_alloc); exact tyOk rfl; exact rfl)) | ((with_reducible apply rpN); ((with_reducible apply does_store_whole); exact tyOk rfl; exact rfl; exact rfl; exact rfl; exact rfl; exact rfl)) | ((with_reducible apply aw_cond); exact rfl; (focus (intro hd; (cases hd; done))); (intro hd; clear hd)) | ((with_reducible apply aw_cond); exact rfl; rotate_left; (focus (intro hd; (cases hd; done))); (intro hd; clear hd)))
      (with_reducible apply ret_ok); (focus (repeat' (first | (with_reducible apply rv_nil) | (with_reducible apply rv_cons) | ((with_reducible apply rv_rowd); exact rfl; exact rfl; exact tyOk rfl; exact rfl; exact rfl)))); exact rfl; refine SubD.of_eq ?_
      rfl
    · rw [if_neg (by decide), if_neg (by decide), if_neg (by decide), if_pos rfl, if_neg hm]
      refine pc_of_aw Tryd.func78 rfl (by kernel_rfl) mixed (by kernel_rfl) (by rw [Tryd.ntmps78]; exact Nat.le_of_ble_eq_true rfl) Tryd.results78 ?_
      repeat (first | (with_reducible first | apply aw_seq | apply aw_reg | apply rp_nil | apply ae_norm | apply aw_block | apply be_norm | apply aw_ret | apply re_ret | apply aw_skip) | ((with_reducible apply rp); first | (exact does_add_to (z := n + 1) rfl rfl rfl (by omega) (by omega)) | ((with_reducible apply does_move); (conv => lhs; whnf)) | ((with_reducible apply does_assign); (conv => lhs; whnf)) | ((with_reducible apply does_fieldAddr); exact tyOk rfl; exact rfl; exact rfl; decide; exact rfl) | ((with_reducible apply does_load_row); exact tyOk rfl; exact rfl; exact rfl; exact rfl; exact Nat.le_of_ble_eq_true rfl; exact rfl) | ((with_reducible apply does_eq); exact rfl; exact rfl) | ((with_reducible apply does_build); exact tyOk rfl; exact rfl; exact rfl; (focus repeat' (first | exact rfl | refine ⟨_, _, rfl, rfl, Nat.le_of_ble_eq_true rfl, rfl, ?_⟩)); exact rfl)) | ((with_reducible apply rp1); ((with_reducible apply does_alloc); exact tyOk rfl; exact rfl)) | ((with_reducible apply rpN); first | ((with_reducible apply does_store); exact tyOk rfl; exact rfl; exact rfl; (conv => lhs; whnf); exact rfl; exact rfl; exact Nat.le_of_ble_eq_true rfl) | ((with_reducible apply does_store_whole); exact tyOk rfl; exact rfl; exact rfl; exact rfl; exact rfl; exact rfl)) | ((with_reducible apply aw_cond); exact rfl; (focus (intro hd; (first | (cases hd; done) | (exfalso; simp at hd; omega)))); (intro hd; clear hd)) | ((with_reducible apply aw_cond); exact rfl; rotate_left; (focus (intro hd; (first | (cases hd; done) | (exfalso; simp at hd; omega)))); (intro hd; clear hd)))
      (with_reducible apply ret_ok); (focus (repeat' (first | (with_reducible apply rv_nil) | (with_reducible apply rv_cons) | ((with_reducible apply rv_rowd); exact rfl; exact rfl; exact tyOk rfl; exact rfl; exact rfl)))); exact rfl; refine SubD.of_eq ?_
      rfl
  · refine pc_of_aw Tryd.func78 rfl (by kernel_rfl) mixed (by kernel_rfl) (by rw [Tryd.ntmps78]; exact Nat.le_of_ble_eq_true rfl) Tryd.results78 ?_
    repeat (first | (with_reducible first | apply aw_seq | apply aw_reg | apply rp_nil | apply ae_norm | apply aw_block | apply be_norm | apply aw_ret | apply re_ret) | ((with_reducible apply rp); first | ((with_reducible apply does_move); (conv => lhs; whnf)) | ((with_reducible apply does_assign); (conv => lhs; whnf)) | ((with_reducible apply does_fieldAddr); exact tyOk rfl; exact rfl; exact rfl; decide; exact rfl) | ((with_reducible apply does_load_row); exact tyOk rfl; exact rfl; exact rfl; exact rfl; exact Nat.le_of_ble_eq_true rfl; exact rfl) | ((with_reducible apply does_eq); exact rfl; exact rfl) | ((with_reducible apply does_build); exact tyOk rfl; exact rfl; exact rfl; (focus repeat' (first | exact rfl | refine ⟨_, _, rfl, rfl, Nat.le_of_ble_eq_true rfl, rfl, ?_⟩)); exact rfl)) | ((with_reducible apply rp1); ((with_reducible apply does_alloc); exact tyOk rfl; exact rfl)) | ((with_reducible apply rpN); first | ((with_reducible apply does_store); exact tyOk rfl; exact rfl; exact rfl; (conv => lhs; whnf); exact rfl; exact rfl; exact Nat.le_of_ble_eq_true rfl) | ((with_reducible apply does_store_whole); exact tyOk rfl; exact rfl; exact rfl; exact rfl; exact rfl; exact rfl)) | ((with_reducible apply aw_cond); exact rfl; (focus (intro hd; (cases hd; done))); (intro hd; clear hd)) | ((with_reducible apply aw_cond); exact rfl; rotate_left; (focus (intro hd; (cases hd; done))); (intro hd; clear hd)))
    (with_reducible apply ret_ok); (focus (repeat' (first | (with_reducible apply rv_nil) | (with_reducible apply rv_cons) | ((with_reducible apply rv_rowd); exact rfl; exact rfl; exact tyOk rfl; exact rfl; exact rfl)))); exact rfl; refine SubD.of_eq ?_
    rfl
set_option maxHeartbeats 2000000 in
theorem literal_pc (x : Ex) (hok : x.ok) : PC Tryd.prog 77 [.ag x.cs] (.tu [iD (litN x), bD (litB x)]) := by
  cases x with
  | lit v =>
    clear hok
    obtain ⟨k, n, b, t⟩ := v
    unfold Ex.cs litN litB
    dsimp only
    refine pc_of_aw Tryd.func77 rfl (by kernel_rfl) mixed (by kernel_rfl) (by rw [Tryd.ntmps77]; exact Nat.le_of_ble_eq_true rfl) Tryd.results77 ?_
    repeat (first | (with_reducible first | apply aw_seq | apply aw_reg | apply rp_nil | apply ae_norm | apply aw_regD | apply aw_ret | apply re_ret | apply aw_skip) | ((with_reducible apply dr_nil); (first | kernel_rfl | exact rfl)) | ((first | (with_reducible first | apply rp | apply dr) | ((with_reducible first | apply rpG | apply drG); exact rfl; exact gval_t rfl; (focus repeat' (first | exact trivial | exact fun h => h | refine And.intro ?_ ?_)); intro hgd; have hgd0 := hgd; (try simp only [decide_eq_true_eq, Bool.and_eq_true, Bool.not_eq_true', beq_iff_eq] at hgd))); first | ((with_reducible apply does_move); (conv => lhs; whnf)) | ((with_reducible apply does_assign); (conv => lhs; whnf)) | ((with_reducible apply does_and); exact rfl; exact rfl; exact rfl; exact fun h => h) | ((with_reducible apply does_pickF); exact rfl; (first | assumption | decide); (conv => lhs; whnf)) | ((with_reducible apply does_fieldAddr); exact tyOk rfl; exact rfl; exact rfl; decide; exact rfl) | ((with_reducible apply does_load_var); exact tyOk rfl; exact rfl; exact rfl; exact rfl; exact rfl) | ((with_reducible apply does_index_sl); exact tyOk rfl; exact rfl; exact tyOk rfl; exact rfl; exact rfl; exact rfl; exact rfl; omega) | ((with_reducible apply does_eq); exact rfl; exact rfl)) | ((with_reducible apply rp1); ((with_reducible apply does_box_ag); exact rfl; exact rfl)) | ((with_reducible apply aw_cond); exact rfl; (focus (intro hd; (cases hd; done))); (intro hd; clear hd)) | ((first | (with_reducible apply rpGF) | (with_reducible apply drGF)); exact rfl; exact gval_t rfl; (first | assumption | decide | exact rfl); (focus repeat' (first | exact trivial | exact fun h => h | refine And.intro ?_ ?_))))
    (with_reducible apply ret_ok); (focus (repeat' (first | (with_reducible apply rv_nil) | (with_reducible apply rv_cons) | ((with_reducible apply rv_tmp); exact rfl)))); exact rfl; refine SubD.of_eq ?_
    rfl
  | col n =>
    unfold Ex.cs litN litB
    refine pc_of_aw Tryd.func77 rfl (by kernel_rfl) mixed (by kernel_rfl) (by rw [Tryd.ntmps77]; exact Nat.le_of_ble_eq_true rfl) Tryd.results77 ?_
    repeat (first | (with_reducible first | apply aw_seq | apply aw_reg | apply rp_nil | apply ae_norm | apply aw_regD | apply aw_ret | apply re_ret | apply aw_skip) | ((with_reducible apply dr_nil); (first | kernel_rfl | exact rfl)) | ((first | (with_reducible first | apply rp | apply dr) | ((with_reducible first | apply rpG | apply drG); exact rfl; exact gval_t rfl; (focus repeat' (first | exact trivial | exact fun h => h | refine And.intro ?_ ?_)); intro hgd; have hgd0 := hgd; (try simp only [decide_eq_true_eq, Bool.and_eq_true, Bool.not_eq_true', beq_iff_eq] at hgd))); first | ((with_reducible apply does_move); (conv => lhs; whnf)) | ((with_reducible apply does_assign); (conv => lhs; whnf)) | ((with_reducible apply does_and); exact rfl; exact rfl; exact rfl; exact fun h => h) | ((with_reducible apply does_pickF); exact rfl; (first | assumption | decide); (conv => lhs; whnf)) | ((with_reducible apply does_fieldAddr); exact tyOk rfl; exact rfl; exact rfl; decide; exact rfl) | ((with_reducible apply does_load_var); exact tyOk rfl; exact rfl; exact rfl; exact rfl; exact rfl) | ((with_reducible apply does_index_sl); exact tyOk rfl; exact rfl; exact tyOk rfl; exact rfl; exact rfl; exact rfl; exact rfl; omega) | ((with_reducible apply does_eq); exact rfl; exact rfl)) | ((with_reducible apply rp1); ((with_reducible apply does_box_ag); exact rfl; exact rfl)) | ((with_reducible apply aw_cond); exact rfl; (focus (intro hd; (cases hd; done))); (intro hd; clear hd)) | ((first | (with_reducible apply rpGF) | (with_reducible apply drGF)); exact rfl; exact gval_t rfl; (first | assumption | decide | exact rfl); (focus repeat' (first | exact trivial | exact fun h => h | refine And.intro ?_ ?_))))
    (with_reducible apply ret_ok); (focus (repeat' (first | (with_reducible apply rv_nil) | (with_reducible apply rv_cons) | ((with_reducible apply rv_tmp); exact rfl)))); exact rfl; refine SubD.of_eq ?_
    rfl
  | bi op a b =>
    have hop := hok.1
    unfold bi2 at hop
    clear hok
    have h3 : ((op : Int) == 3) = false := beq_eq_false_iff_ne.2 (by omega)
    have h1 : ((op : Int) == 1) = false := beq_eq_false_iff_ne.2 (by omega)
    unfold Ex.cs litN litB
    have hal := a.cs_eq
    generalize a.cs = ac at *
    subst hal
    generalize b.cs = bc at *
    have hga : [[iD a.op, iD a.val.k, iD a.val.n, qD a.val.b, strD a.val.t, strD a.nam, .sl 7 (a.args.map Ex.cs)], bc][0]? = some [iD a.op, iD a.val.k, iD a.val.n, qD a.val.b, strD a.val.t, strD a.nam, .sl 7 (a.args.map Ex.cs)] := rfl
    have hc : ((((op : Int) == 3 && (a.op : Int) == 1)) && a.val.k == 2) = false := by rw [h3]; rfl
    have hc2 : ((op : Int) == 1 && (0 : Int) == 2) = false := by rw [h1]; rfl
    refine pc_of_aw Tryd.func77 rfl (by kernel_rfl) mixed (by kernel_rfl) (by rw [Tryd.ntmps77]; exact Nat.le_of_ble_eq_true rfl) Tryd.results77 ?_
    repeat (first | (with_reducible first | apply aw_seq | apply aw_reg | apply rp_nil | apply ae_norm) | ((first | (with_reducible apply rp) | ((with_reducible apply rpG); exact rfl; exact gval_t rfl; (focus repeat' (first | exact trivial | exact fun h => h | refine And.intro ?_ ?_)); intro hgd; have hgd0 := hgd; (try simp only [decide_eq_true_eq, Bool.and_eq_true, Bool.not_eq_true', beq_iff_eq] at hgd))); first | ((with_reducible apply does_move); (conv => lhs; whnf)) | ((with_reducible apply does_assign); (conv => lhs; whnf)) | ((with_reducible apply does_and); exact rfl; exact rfl; exact rfl; exact fun h => h) | ((with_reducible apply does_fieldAddr); exact tyOk rfl; exact rfl; exact rfl; decide; exact rfl) | ((with_reducible apply does_load_var); exact tyOk rfl; exact rfl; exact rfl; exact rfl; exact rfl) | ((with_reducible apply does_load_elem); exact tyOk rfl; exact rfl; exact rfl; assumption; exact rfl) | ((with_reducible apply does_index_sl); exact tyOk rfl; exact rfl; exact tyOk rfl; exact rfl; exact rfl; exact rfl; exact rfl; omega) | ((with_reducible apply does_eq); exact rfl; exact rfl)) | ((with_reducible apply rp1); ((with_reducible apply does_box_ag); exact rfl; exact rfl)))
    refine aw_cond rfl (fun hd => absurd (hc.symm.trans hd) (by decide)) (fun _ => ?_)
    repeat (first | (with_reducible first | apply aw_seq | apply ae_norm | apply aw_regD | apply aw_ret | apply re_ret | apply aw_skip) | ((with_reducible apply dr_nil); (first | kernel_rfl | exact rfl)) | ((first | (with_reducible apply dr) | ((with_reducible apply drG); exact rfl; exact gval_t rfl; (focus repeat' (first | exact trivial | exact fun h => h | refine And.intro ?_ ?_)); intro hgd; have hgd0 := hgd; (try simp only [decide_eq_true_eq, Bool.and_eq_true, Bool.not_eq_true', beq_iff_eq] at hgd))); first | ((with_reducible apply does_move); (conv => lhs; whnf)) | ((with_reducible apply does_assign); (conv => lhs; whnf)) | ((with_reducible apply does_and); exact rfl; exact rfl; exact rfl; exact fun h => h) | ((with_reducible apply does_fieldAddr); exact tyOk rfl; exact rfl; exact rfl; decide; exact rfl) | ((with_reducible apply does_load_var); exact tyOk rfl; exact rfl; exact rfl; exact rfl; exact rfl) | ((with_reducible apply does_eq); exact rfl; exact rfl)))
    (with_reducible apply ret_ok); (focus (repeat' (first | (with_reducible apply rv_nil) | (with_reducible apply rv_cons) | ((with_reducible apply rv_tmp); exact rfl)))); exact rfl; refine SubD.of_eq ?_
    rw [hc2]
    rfl
  | un op a =>
    have hop := hok.1
    unfold un1 at hop
    clear hok
    have h1 : ((op : Int) == 1) = false := beq_eq_false_iff_ne.2 (by omega)
    unfold Ex.cs litN litB
    dsimp only
    have hal := a.cs_eq
    generalize a.cs = ac at *
    subst hal
    have hga : [[iD a.op, iD a.val.k, iD a.val.n, qD a.val.b, strD a.val.t, strD a.nam, .sl 7 (a.args.map Ex.cs)]][0]? = some [iD a.op, iD a.val.k, iD a.val.n, qD a.val.b, strD a.val.t, strD a.nam, .sl 7 (a.args.map Ex.cs)] := rfl
    by_cases h : op = 3 ∧ a.op = 1 ∧ a.val.k = 2
    · rw [if_pos h]
      have hc : ((((op : Int) == 3 && (a.op : Int) == 1)) && a.val.k == 2) = true := by rw [h.1, h.2.1, h.2.2]; rfl
      have hb : decide (op = 3 ∧ a.op = 1 ∧ a.val.k = 2) = true := decide_eq_true h
      rw [hb]
      clear h hb hop
      refine pc_of_aw Tryd.func77 rfl (by kernel_rfl) mixed (by kernel_rfl) (by rw [Tryd.ntmps77]; exact Nat.le_of_ble_eq_true rfl) Tryd.results77 ?_
      repeat (first | (with_reducible first | apply aw_seq | apply aw_reg | apply rp_nil | apply ae_norm) | ((first | (with_reducible apply rp) | ((with_reducible apply rpG); exact rfl; exact gval_t rfl; (focus repeat' (first | exact trivial | exact fun h => h | refine And.intro ?_ ?_)); intro hgd; have hgd0 := hgd; (try simp only [decide_eq_true_eq, Bool.and_eq_true, Bool.not_eq_true', beq_iff_eq] at hgd))); first | ((with_reducible apply does_move); (conv => lhs; whnf)) | ((with_reducible apply does_assign); (conv => lhs; whnf)) | ((with_reducible apply does_and); exact rfl; exact rfl; exact rfl; exact fun h => h) | ((with_reducible apply does_fieldAddr); exact tyOk rfl; exact rfl; exact rfl; decide; exact rfl) | ((with_reducible apply does_load_var); exact tyOk rfl; exact rfl; exact rfl; exact rfl; exact rfl) | ((with_reducible apply does_load_elem); exact tyOk rfl; exact rfl; exact rfl; assumption; exact rfl) | ((with_reducible apply does_index_sl); exact tyOk rfl; exact rfl; exact tyOk rfl; exact rfl; exact rfl; exact rfl; exact rfl; (dsimp only; simp only [List.length_map, List.length_append, List.length_cons, List.length_nil] at *; omega)) | ((with_reducible apply does_eq); exact rfl; exact rfl)) | ((with_reducible apply rp1); ((with_reducible apply does_box_ag); exact rfl; exact rfl)))
      refine aw_cond rfl (fun _ => ?_) (fun hd => absurd (hc.symm.trans hd) (by decide))
      repeat (first | (with_reducible first | apply aw_seq | apply aw_reg | apply rp_nil | apply ae_norm | apply aw_ret | apply ae_ret | apply re_ret) | ((with_reducible apply rp); first | ((with_reducible apply does_assign); (conv => lhs; whnf)) | ((with_reducible apply does_fieldAddr); exact tyOk rfl; exact rfl; exact rfl; decide; exact rfl) | ((with_reducible apply does_load_var); exact tyOk rfl; exact rfl; exact rfl; exact rfl; exact rfl) | ((with_reducible apply does_load_elem); exact tyOk rfl; exact rfl; exact rfl; assumption; exact rfl) | ((with_reducible apply does_index_sl); exact tyOk rfl; exact rfl; exact tyOk rfl; exact rfl; exact rfl; exact rfl; exact rfl; (dsimp only; simp only [List.length_map, List.length_append, List.length_cons, List.length_nil] at *; omega)) | ((with_reducible apply does_neg); exact rfl)))
      (with_reducible apply ret_ok); (focus (repeat' (first | (with_reducible apply rv_nil) | (with_reducible apply rv_cons) | ((with_reducible apply rv_tmp); exact rfl)))); exact rfl; refine SubD.of_eq ?_
      rfl
    · rw [if_neg h]
      have hc : ((((op : Int) == 3 && (a.op : Int) == 1)) && a.val.k == 2) = false := by
        rw [Bool.eq_false_iff]
        intro h2
        simp only [Bool.and_eq_true, beq_iff_eq] at h2
        exact h ⟨by omega, by omega, h2.2⟩
      have hb : decide (op = 3 ∧ a.op = 1 ∧ a.val.k = 2) = false := decide_eq_false h
      have hc2 : ((op : Int) == 1 && (0 : Int) == 2) = false := by rw [h1]; rfl
      rw [hb]
      clear h hb hop
      refine pc_of_aw Tryd.func77 rfl (by kernel_rfl) mixed (by kernel_rfl) (by rw [Tryd.ntmps77]; exact Nat.le_of_ble_eq_true rfl) Tryd.results77 ?_
      repeat (first | (with_reducible first | apply aw_seq | apply aw_reg | apply rp_nil | apply ae_norm) | ((first | (with_reducible apply rp) | ((with_reducible apply rpG); exact rfl; exact gval_t rfl; (focus repeat' (first | exact trivial | exact fun h => h | refine And.intro ?_ ?_)); intro hgd; have hgd0 := hgd; (try simp only [decide_eq_true_eq, Bool.and_eq_true, Bool.not_eq_true', beq_iff_eq] at hgd))); first | ((with_reducible apply does_move); (conv => lhs; whnf)) | ((with_reducible apply does_assign); (conv => lhs; whnf)) | ((with_reducible apply does_and); exact rfl; exact rfl; exact rfl; exact fun h => h) | ((with_reducible apply does_fieldAddr); exact tyOk rfl; exact rfl; exact rfl; decide; exact rfl) | ((with_reducible apply does_load_var); exact tyOk rfl; exact rfl; exact rfl; exact rfl; exact rfl) | ((with_reducible apply does_load_elem); exact tyOk rfl; exact rfl; exact rfl; assumption; exact rfl) | ((with_reducible apply does_index_sl); exact tyOk rfl; exact rfl; exact tyOk rfl; exact rfl; exact rfl; exact rfl; exact rfl; (dsimp only; simp only [List.length_map, List.length_append, List.length_cons, List.length_nil] at *; omega)) | ((with_reducible apply does_eq); exact rfl; exact rfl)) | ((with_reducible apply rp1); ((with_reducible apply does_box_ag); exact rfl; exact rfl)))
      refine aw_cond rfl (fun hd => absurd (hc.symm.trans hd) (by decide)) (fun _ => ?_)
      repeat (first | (with_reducible first | apply aw_seq | apply ae_norm | apply aw_regD | apply aw_ret | apply re_ret | apply aw_skip) | ((with_reducible apply dr_nil); (first | kernel_rfl | exact rfl)) | ((first | (with_reducible apply dr) | ((with_reducible apply drG); exact rfl; exact gval_t rfl; (focus repeat' (first | exact trivial | exact fun h => h | refine And.intro ?_ ?_)); intro hgd; have hgd0 := hgd; (try simp only [decide_eq_true_eq, Bool.and_eq_true, Bool.not_eq_true', beq_iff_eq] at hgd))); first | ((with_reducible apply does_move); (conv => lhs; whnf)) | ((with_reducible apply does_assign); (conv => lhs; whnf)) | ((with_reducible apply does_and); exact rfl; exact rfl; exact rfl; exact fun h => h) | ((with_reducible apply does_fieldAddr); exact tyOk rfl; exact rfl; exact rfl; decide; exact rfl) | ((with_reducible apply does_load_var); exact tyOk rfl; exact rfl; exact rfl; exact rfl; exact rfl) | ((with_reducible apply does_eq); exact rfl; exact rfl)))
      (with_reducible apply ret_ok); (focus (repeat' (first | (with_reducible apply rv_nil) | (with_reducible apply rv_cons) | ((with_reducible apply rv_tmp); exact rfl)))); exact rfl; refine SubD.of_eq ?_
      rw [hc2]
      rfl
/-- Each whole number in it is one of 64 bits. -/
def Ex.i64 : Ex → Prop
  | .lit v => I64 v.n
  | .col _ => True
  | .un _ a => a.i64
  | .bi _ a b => a.i64 ∧ b.i64
theorem litN_ok {x : Ex} (h : x.i64) : I64 (litN x) := by
  have h0 : I64 0 := ⟨by decide, by decide⟩
  cases x with
  | lit v => exact h
  | col n => exact h0
  | bi op a b => exact h0
  | un op a =>
    show I64 (if op = 3 ∧ a.op = 1 ∧ a.val.k = 2 then w64 (0 - a.val.n) else 0)
    split
    · unfold I64 w64
      rw [IntKind.wrap_i64]
      omega
    · exact h0
theorem isCol_eq (c : ByteArray) {x : Ex} (hok : x.ok) : ((x.op : Int) == 2 && (x.nam.toList == c.toList)) = isCol c x := by
  cases x with
  | col n =>
    show ((2 : Int) == 2 && (n.toList == c.toList)) = decide (n = c)
    rw [Bool.eq_iff_iff, Bool.and_eq_true, beq_iff_eq, decide_eq_true_eq]
    exact ⟨fun h => ba_eq (eq_of_beq h.2), fun h => ⟨rfl, by rw [h]; simp⟩⟩
  | lit v => rfl
  | un op a =>
    have := hok.1
    unfold un1 at this
    have h : ((op : Int) == 2) = false := beq_eq_false_iff_ne.2 (by omega)
    show ((op : Int) == 2 && _) = false
    rw [h]; rfl
  | bi op a b =>
    have := hok.1
    unfold bi2 at this
    have h : ((op : Int) == 2) = false := beq_eq_false_iff_ne.2 (by omega)
    show ((op : Int) == 2 && _) = false
    rw [h]; rfl
theorem span_other {c : ByteArray} {x : Ex} (hok : x.ok) (h15 : x.op ≠ 15) (h : x.op < 9 ∨ x.op > 14) : spanF c x = (minI, maxI) := by
  cases x with
  | lit v => rfl
  | col n => rfl
  | un op a => rfl
  | bi op a b =>
    have h15 : op ≠ 15 := h15
    have h : op < 9 ∨ op > 14 := h
    unfold spanF
    rw [if_neg h15, if_pos h]
set_option maxHeartbeats 2000000 in
theorem of_all (c : ByteArray) (x : Ex) (hok : x.ok) (h15 : x.op ≠ 15) (h : x.op < 9 ∨ x.op > 14) : PC Tryd.prog 50 [.ag x.cs, strD c] (rgD (minI, maxI)) := by
  have hxl := x.cs_eq
  generalize x.cs = xc at *
  subst hxl
  have m1 : minI = -9223372036854775808 := rfl
  have m2 : maxI = 9223372036854775807 := rfl
  rw [m1, m2]
  have hc : (decide ((x.op : Int) < 9) || decide ((x.op : Int) > 14)) = true := by
    rw [Bool.or_eq_true, decide_eq_true_eq, decide_eq_true_eq]; omega
  have h15' : ((x.op : Int) == 15) = false := beq_eq_false_iff_ne.2 (by omega)
  clear hok h h15
  refine pc_of_aw Tryd.func50 rfl (by kernel_rfl) mixed (by kernel_rfl) (by rw [Tryd.ntmps50]; exact Nat.le_of_ble_eq_true rfl) Tryd.results50 ?_
  repeat (first | (with_reducible first | apply aw_seq | apply aw_reg | apply rp_nil | apply ae_norm | apply aw_block) | ((with_reducible apply rp); first | ((with_reducible apply does_assign); (conv => lhs; whnf)) | ((with_reducible apply does_fieldAddr); exact tyOk rfl; exact rfl; exact rfl; decide; exact rfl) | ((with_reducible apply does_load_var); exact tyOk rfl; exact rfl; exact rfl; exact rfl; exact rfl) | ((with_reducible apply does_eq); exact rfl; exact rfl) | ((with_reducible apply does_build); exact tyOk rfl; exact rfl; exact rfl; (focus repeat' (first | exact rfl | refine ⟨_, _, rfl, rfl, Nat.le_of_ble_eq_true rfl, rfl, ?_⟩)); exact rfl)) | ((with_reducible apply rp1); first | ((with_reducible apply does_box_ag); exact rfl; exact rfl) | ((with_reducible apply does_alloc); exact tyOk rfl; exact rfl)) | ((with_reducible apply rpN); ((with_reducible apply does_store_whole); exact tyOk rfl; exact rfl; exact rfl; exact rfl; exact rfl; exact rfl)))
  refine aw_cond rfl (fun hd => absurd (h15'.symm.trans hd) (by decide)) (fun _ => ?_)
  repeat (first | (with_reducible first | apply aw_seq | apply aw_reg | apply rp_nil | apply ae_norm) | ((first | (with_reducible apply rp) | ((with_reducible apply rpG); exact rfl; exact gval_f rfl; (focus repeat' (first | exact trivial | exact fun h => h | refine And.intro ?_ ?_)); intro hgd; have hgd0 := hgd; (try simp only [decide_eq_true_eq, Bool.and_eq_true, Bool.not_eq_true', beq_iff_eq] at hgd))); first | ((with_reducible apply does_move); (conv => lhs; whnf)) | ((with_reducible apply does_assign); (conv => lhs; whnf)) | ((with_reducible apply does_or); exact rfl; exact rfl; exact rfl; exact fun h => h) | ((with_reducible apply does_fieldAddr); exact tyOk rfl; exact rfl; exact rfl; decide; exact rfl) | ((with_reducible apply does_load_var); exact tyOk rfl; exact rfl; exact rfl; exact rfl; exact rfl) | ((with_reducible apply does_lt); exact rfl; exact rfl) | ((with_reducible apply does_gt); exact rfl; exact rfl)))
  refine aw_cond rfl (fun _ => ?_) (fun hd => absurd (hc.symm.trans hd) (by decide))
  repeat (first | (with_reducible first | apply aw_seq | apply aw_reg | apply rp_nil | apply ae_norm | apply aw_ret | apply ae_ret | apply be_ret | apply re_ret) | ((with_reducible apply rp); ((with_reducible apply does_load_row); exact tyOk rfl; exact rfl; exact rfl; exact rfl; exact Nat.le_of_ble_eq_true rfl; exact rfl)) | ((with_reducible apply rpN); ((with_reducible apply does_store_whole); exact tyOk rfl; exact rfl; exact rfl; exact rfl; exact rfl; exact rfl)))
  (with_reducible apply ret_ok); (focus (repeat' (first | (with_reducible apply rv_nil) | (with_reducible apply rv_cons) | ((with_reducible apply rv_rowd); exact rfl; exact rfl; exact tyOk rfl; exact rfl; exact rfl)))); exact rfl; refine SubD.of_eq ?_
  rfl
set_option maxHeartbeats 2000000 in
theorem of_and (c : ByteArray) (a b : Ex) (r s : Int × Int) (pa : PC Tryd.prog 50 [.ag a.cs, strD c] (rgD r)) (pb : PC Tryd.prog 50 [.ag b.cs, strD c] (rgD s)) :
    PC Tryd.prog 50 [.ag (Ex.bi 15 a b).cs, strD c] (rgD (if r.1 < s.1 then s.1 else r.1, if s.2 < r.2 then s.2 else r.2)) := by
  unfold Ex.cs
  have hal := a.cs_eq
  generalize a.cs = ac at *
  subst hal
  have hbl := b.cs_eq
  generalize b.cs = bc at *
  subst hbl
  obtain ⟨r1, r2⟩ := r
  obtain ⟨s1, s2⟩ := s
  unfold rgD at *
  dsimp only at *
  have hga : [[iD a.op, iD a.val.k, iD a.val.n, qD a.val.b, strD a.val.t, strD a.nam, .sl 7 (a.args.map Ex.cs)], [iD b.op, iD b.val.k, iD b.val.n, qD b.val.b, strD b.val.t, strD b.nam, .sl 7 (b.args.map Ex.cs)]][0]? = some [iD a.op, iD a.val.k, iD a.val.n, qD a.val.b, strD a.val.t, strD a.nam, .sl 7 (a.args.map Ex.cs)] := rfl
  have hgb : [[iD a.op, iD a.val.k, iD a.val.n, qD a.val.b, strD a.val.t, strD a.nam, .sl 7 (a.args.map Ex.cs)], [iD b.op, iD b.val.k, iD b.val.n, qD b.val.b, strD b.val.t, strD b.nam, .sl 7 (b.args.map Ex.cs)]][1]? = some [iD b.op, iD b.val.k, iD b.val.n, qD b.val.b, strD b.val.t, strD b.nam, .sl 7 (b.args.map Ex.cs)] := rfl
  refine pc_of_aw Tryd.func50 rfl (by kernel_rfl) mixed (by kernel_rfl) (by rw [Tryd.ntmps50]; exact Nat.le_of_ble_eq_true rfl) Tryd.results50 ?_
  repeat (first | (with_reducible first | apply aw_seq | apply aw_reg | apply rp_nil | apply ae_norm | apply aw_regD | apply aw_block | apply aw_ret | apply ae_ret | apply be_ret | apply re_ret) | ((with_reducible apply dr_nil); (first | kernel_rfl | exact rfl)) | ((with_reducible first | apply rp | apply dr); first | ((with_reducible apply does_call_flat); exact rfl; exact rfl; exact (pa); exact rfl) | ((with_reducible apply does_call_flat); exact rfl; exact rfl; exact (pb); exact rfl) | (exact does_max rfl rfl) | (exact does_min rfl rfl) | ((with_reducible apply does_move); (conv => lhs; whnf)) | ((with_reducible apply does_assign); (conv => lhs; whnf)) | ((with_reducible apply does_fieldAddr); exact tyOk rfl; exact rfl; exact rfl; decide; exact rfl) | ((with_reducible apply does_load_var); exact tyOk rfl; exact rfl; exact rfl; exact rfl; exact rfl) | ((with_reducible apply does_load_elem_whole); exact tyOk rfl; exact rfl; exact rfl; assumption; exact rfl) | ((with_reducible apply does_index_sl); exact tyOk rfl; exact rfl; exact tyOk rfl; exact rfl; exact rfl; exact rfl; exact rfl; (dsimp only; simp only [List.length_map, List.length_append, List.length_cons, List.length_nil] at *; omega)) | ((with_reducible apply does_eq); exact rfl; exact rfl) | ((with_reducible apply does_build); exact tyOk rfl; exact rfl; exact rfl; (focus repeat' (first | exact rfl | refine ⟨_, _, rfl, rfl, Nat.le_of_ble_eq_true rfl, rfl, ?_⟩)); exact rfl)) | ((with_reducible first | apply rp1 | apply dr1); first | ((with_reducible apply does_box_ag); exact rfl; exact rfl) | ((with_reducible apply does_alloc); exact tyOk rfl; exact rfl)) | ((with_reducible first | apply rpN | apply drN); ((with_reducible apply does_store_whole); exact tyOk rfl; exact rfl; exact rfl; exact rfl; exact rfl; exact rfl)) | ((with_reducible apply aw_cond); exact rfl; rotate_left; (focus (intro hd; (cases hd; done))); (intro hd; clear hd)))
  (with_reducible apply ret_ok); (focus (repeat' (first | (with_reducible apply rv_nil) | (with_reducible apply rv_cons) | ((with_reducible apply rv_rowd); exact rfl; exact rfl; exact tyOk rfl; exact rfl; exact rfl)))); exact rfl; refine SubD.of_eq ?_
  rfl
set_option maxHeartbeats 4000000 in
theorem of_cmp (c : ByteArray) (op : Nat) (a b : Ex) (h : 9 ≤ op ∧ op ≤ 14) (oka : a.ok) (okb : b.ok) (ia : a.i64) (ib : b.i64) : PC Tryd.prog 50 [.ag (Ex.bi op a b).cs, strD c] (rgD (spanF c (.bi op a b))) := by
  have la := literal_pc a oka
  have lb := literal_pc b okb
  have b1 := bounds_pc op h (litN b) (litN_ok ib)
  have b2 := bounds_pc (turnF op) (by rcases (by omega : op = 9 ∨ op = 10 ∨ op = 11 ∨ op = 12 ∨ op = 13 ∨ op = 14) with rfl | rfl | rfl | rfl | rfl | rfl <;> decide) (litN a) (litN_ok ia)
  have t1 := turned_pc op
  have ca := isCol_eq c oka
  have cb := isCol_eq c okb
  have m1 : minI = -9223372036854775808 := rfl
  have m2 : maxI = 9223372036854775807 := rfl
  have h15 : ((op : Int) == 15) = false := beq_eq_false_iff_ne.2 (by omega)
  have hr : (decide ((op : Int) < 9) || decide ((op : Int) > 14)) = false := by
    rw [Bool.or_eq_false_iff, decide_eq_false_iff_not, decide_eq_false_iff_not]; omega
  have hs : spanF c (.bi op a b) = if (litB b && isCol c a) = true then boundF op (litN b) else if (litB a && isCol c b) = true then boundF (turnF op) (litN a) else (minI, maxI) := by
    rw [spanF, if_neg (by omega), if_neg (by omega)]
  rw [hs, ← ca, ← cb, m1, m2]
  clear hs ca cb oka okb ia ib
  generalize boundF op (litN b) = r1 at *
  generalize boundF (turnF op) (litN a) = r2 at *
  generalize litN a = na at *
  generalize litN b = nb at *
  generalize litB a = ba at *
  generalize litB b = bb at *
  generalize turnF op = op2 at *
  unfold Ex.cs
  have hal := a.cs_eq
  generalize a.cs = ac at *
  subst hal
  have hbl := b.cs_eq
  generalize b.cs = bc at *
  subst hbl
  obtain ⟨r11, r12⟩ := r1
  obtain ⟨r21, r22⟩ := r2
  unfold rgD at *
  dsimp only at *
  have hga : [[iD a.op, iD a.val.k, iD a.val.n, qD a.val.b, strD a.val.t, strD a.nam, .sl 7 (a.args.map Ex.cs)], [iD b.op, iD b.val.k, iD b.val.n, qD b.val.b, strD b.val.t, strD b.nam, .sl 7 (b.args.map Ex.cs)]][0]? = some [iD a.op, iD a.val.k, iD a.val.n, qD a.val.b, strD a.val.t, strD a.nam, .sl 7 (a.args.map Ex.cs)] := rfl
  have hgb : [[iD a.op, iD a.val.k, iD a.val.n, qD a.val.b, strD a.val.t, strD a.nam, .sl 7 (a.args.map Ex.cs)], [iD b.op, iD b.val.k, iD b.val.n, qD b.val.b, strD b.val.t, strD b.nam, .sl 7 (b.args.map Ex.cs)]][1]? = some [iD b.op, iD b.val.k, iD b.val.n, qD b.val.b, strD b.val.t, strD b.nam, .sl 7 (b.args.map Ex.cs)] := rfl
  refine pc_of_aw Tryd.func50 rfl (by kernel_rfl) mixed (by kernel_rfl) (by rw [Tryd.ntmps50]; exact Nat.le_of_ble_eq_true rfl) Tryd.results50 ?_
  repeat (first | (with_reducible first | apply aw_seq | apply aw_reg | apply rp_nil | apply ae_norm | apply aw_block) | ((with_reducible apply rp); first | ((with_reducible apply does_assign); (conv => lhs; whnf)) | ((with_reducible apply does_fieldAddr); exact tyOk rfl; exact rfl; exact rfl; decide; exact rfl) | ((with_reducible apply does_load_var); exact tyOk rfl; exact rfl; exact rfl; exact rfl; exact rfl) | ((with_reducible apply does_eq); exact rfl; exact rfl) | ((with_reducible apply does_build); exact tyOk rfl; exact rfl; exact rfl; (focus repeat' (first | exact rfl | refine ⟨_, _, rfl, rfl, Nat.le_of_ble_eq_true rfl, rfl, ?_⟩)); exact rfl)) | ((with_reducible apply rp1); first | ((with_reducible apply does_box_ag); exact rfl; exact rfl) | ((with_reducible apply does_alloc); exact tyOk rfl; exact rfl)) | ((with_reducible apply rpN); ((with_reducible apply does_store_whole); exact tyOk rfl; exact rfl; exact rfl; exact rfl; exact rfl; exact rfl)))
  refine aw_cond rfl (fun hd => absurd (h15.symm.trans hd) (by decide)) (fun _ => ?_)
  repeat (first | (with_reducible first | apply aw_seq | apply aw_reg | apply rp_nil | apply ae_norm) | ((first | (with_reducible apply rp) | ((with_reducible apply rpG); exact rfl; exact gval_f rfl; (focus repeat' (first | exact trivial | exact fun h => h | refine And.intro ?_ ?_)); intro hgd; have hgd0 := hgd; (try simp only [decide_eq_true_eq, Bool.and_eq_true, Bool.not_eq_true', beq_iff_eq] at hgd))); first | ((with_reducible apply does_move); (conv => lhs; whnf)) | ((with_reducible apply does_assign); (conv => lhs; whnf)) | ((with_reducible apply does_or); exact rfl; exact rfl; exact rfl; exact fun h => h) | ((with_reducible apply does_fieldAddr); exact tyOk rfl; exact rfl; exact rfl; decide; exact rfl) | ((with_reducible apply does_load_var); exact tyOk rfl; exact rfl; exact rfl; exact rfl; exact rfl) | ((with_reducible apply does_lt); exact rfl; exact rfl) | ((with_reducible apply does_gt); exact rfl; exact rfl)))
  refine aw_cond rfl (fun hd => absurd (hr.symm.trans hd) (by decide)) (fun _ => ?_)
  repeat (first | (with_reducible first | apply aw_seq | apply aw_reg | apply rp_nil | apply ae_norm | apply aw_regD | apply be_norm | apply aw_skip) | ((with_reducible apply dr_nil); (first | kernel_rfl | exact rfl)) | ((first | (with_reducible first | apply rp | apply dr) | ((with_reducible apply rpG); exact rfl; exact gval_t rfl; (focus repeat' (first | exact trivial | exact fun h => h | refine And.intro ?_ ?_)); intro hgd; have hgd0 := hgd; (try simp only [decide_eq_true_eq, Bool.and_eq_true, Bool.not_eq_true', beq_iff_eq] at hgd))); first | ((with_reducible apply does_call_flat); exact rfl; exact rfl; exact (lb); exact rfl) | ((with_reducible apply does_move); (conv => lhs; whnf)) | ((with_reducible apply does_assign); (conv => lhs; whnf)) | ((with_reducible apply does_and); exact rfl; exact rfl; exact rfl; exact fun h => h) | ((with_reducible apply does_fieldAddr); exact tyOk rfl; exact rfl; exact rfl; decide; exact rfl) | ((with_reducible apply does_load_var); exact tyOk rfl; exact rfl; exact rfl; exact rfl; exact rfl) | ((with_reducible apply does_load_row); exact tyOk rfl; exact rfl; exact rfl; exact rfl; exact Nat.le_of_ble_eq_true rfl; exact rfl) | ((with_reducible apply does_load_elem_whole); exact tyOk rfl; exact rfl; exact rfl; assumption; exact rfl) | ((with_reducible apply does_index_sl); exact tyOk rfl; exact rfl; exact tyOk rfl; exact rfl; exact rfl; exact rfl; exact rfl; (dsimp only; simp only [List.length_map, List.length_append, List.length_cons, List.length_nil] at *; omega)) | ((with_reducible apply does_eq); exact rfl; exact rfl) | ((with_reducible apply does_seq); exact rfl; exact rfl) | ((with_reducible apply does_extract); exact rfl; exact rfl)) | ((with_reducible apply dr1); ((with_reducible apply does_alloc); exact tyOk rfl; exact rfl)) | ((with_reducible apply drN); ((with_reducible apply does_store_whole); exact tyOk rfl; exact rfl; exact rfl; exact rfl; exact rfl; exact rfl)))
  by_cases c1 : (bb && ((a.op : Int) == 2 && (a.nam.toList == c.toList))) = true
  · rw [if_pos c1]
    have c1' : ((bb && (a.op : Int) == 2) && (a.nam.toList == c.toList)) = true := by rw [Bool.and_assoc]; exact c1
    refine aw_cond rfl (fun _ => ?_) (fun hd => absurd (c1'.symm.trans hd) (by decide))
    repeat (first | (with_reducible first | apply aw_seq | apply aw_reg | apply rp_nil | apply ae_norm | apply aw_ret | apply ae_ret | apply re_ret) | ((with_reducible apply rp); first | ((with_reducible apply does_call_flat); exact rfl; exact rfl; exact (b1); exact rfl) | ((with_reducible apply does_move); (conv => lhs; whnf)) | ((with_reducible apply does_fieldAddr); exact tyOk rfl; exact rfl; exact rfl; decide; exact rfl) | ((with_reducible apply does_load_var); exact tyOk rfl; exact rfl; exact rfl; exact rfl; exact rfl)) | ((with_reducible apply rpN); ((with_reducible apply does_store_whole); exact tyOk rfl; exact rfl; exact rfl; exact rfl; exact rfl; exact rfl)))
    (with_reducible apply ret_ok); (focus (repeat' (first | (with_reducible apply rv_nil) | (with_reducible apply rv_cons) | ((with_reducible apply rv_rowd); exact rfl; exact rfl; exact tyOk rfl; exact rfl; exact rfl)))); exact rfl; refine SubD.of_eq ?_
    rfl
  · rw [if_neg c1]
    have c1' : ((bb && (a.op : Int) == 2) && (a.nam.toList == c.toList)) = false := by rw [Bool.and_assoc]; exact eq_false_of_ne_true c1
    refine aw_cond rfl (fun hd => absurd (c1'.symm.trans hd) (by decide)) (fun _ => ?_)
    repeat (first | (with_reducible first | apply aw_seq | apply aw_reg | apply rp_nil | apply ae_norm | apply aw_skip) | ((first | (with_reducible apply rp) | ((with_reducible apply rpG); exact rfl; exact gval_t rfl; (focus repeat' (first | exact trivial | exact fun h => h | refine And.intro ?_ ?_)); intro hgd; have hgd0 := hgd; (try simp only [decide_eq_true_eq, Bool.and_eq_true, Bool.not_eq_true', beq_iff_eq] at hgd))); first | ((with_reducible apply does_call_flat); exact rfl; exact rfl; exact (la); exact rfl) | ((with_reducible apply does_move); (conv => lhs; whnf)) | ((with_reducible apply does_assign); (conv => lhs; whnf)) | ((with_reducible apply does_and); exact rfl; exact rfl; exact rfl; exact fun h => h) | ((with_reducible apply does_fieldAddr); exact tyOk rfl; exact rfl; exact rfl; decide; exact rfl) | ((with_reducible apply does_load_var); exact tyOk rfl; exact rfl; exact rfl; exact rfl; exact rfl) | ((with_reducible apply does_load_row); exact tyOk rfl; exact rfl; exact rfl; exact rfl; exact Nat.le_of_ble_eq_true rfl; exact rfl) | ((with_reducible apply does_eq); exact rfl; exact rfl) | ((with_reducible apply does_seq); exact rfl; exact rfl) | ((with_reducible apply does_extract); exact rfl; exact rfl)))
    by_cases c2 : (ba && ((b.op : Int) == 2 && (b.nam.toList == c.toList))) = true
    · rw [if_pos c2]
      have c2' : ((ba && (b.op : Int) == 2) && (b.nam.toList == c.toList)) = true := by rw [Bool.and_assoc]; exact c2
      refine aw_cond rfl (fun _ => ?_) (fun hd => absurd (c2'.symm.trans hd) (by decide))
      repeat (first | (with_reducible first | apply aw_seq | apply aw_reg | apply rp_nil | apply ae_norm | apply aw_ret | apply ae_ret | apply re_ret) | ((with_reducible apply rp); first | ((with_reducible apply does_call_flat); exact rfl; exact rfl; exact (t1); exact rfl) | ((with_reducible apply does_call_flat); exact rfl; exact rfl; exact (b2); exact rfl) | ((with_reducible apply does_move); (conv => lhs; whnf)) | ((with_reducible apply does_fieldAddr); exact tyOk rfl; exact rfl; exact rfl; decide; exact rfl) | ((with_reducible apply does_load_var); exact tyOk rfl; exact rfl; exact rfl; exact rfl; exact rfl)) | ((with_reducible apply rpN); ((with_reducible apply does_store_whole); exact tyOk rfl; exact rfl; exact rfl; exact rfl; exact rfl; exact rfl)))
      (with_reducible apply ret_ok); (focus (repeat' (first | (with_reducible apply rv_nil) | (with_reducible apply rv_cons) | ((with_reducible apply rv_rowd); exact rfl; exact rfl; exact tyOk rfl; exact rfl; exact rfl)))); exact rfl; refine SubD.of_eq ?_
      rfl
    · rw [if_neg c2]
      have c2' : ((ba && (b.op : Int) == 2) && (b.nam.toList == c.toList)) = false := by rw [Bool.and_assoc]; exact eq_false_of_ne_true c2
      refine aw_cond rfl (fun hd => absurd (c2'.symm.trans hd) (by decide)) (fun _ => ?_)
      repeat (first | (with_reducible first | apply aw_seq | apply aw_reg | apply rp_nil | apply ae_norm | apply aw_ret | apply re_ret | apply aw_skip) | ((with_reducible apply rp); ((with_reducible apply does_load_row); exact tyOk rfl; exact rfl; exact rfl; exact rfl; exact Nat.le_of_ble_eq_true rfl; exact rfl)) | ((with_reducible apply rpN); ((with_reducible apply does_store_whole); exact tyOk rfl; exact rfl; exact rfl; exact rfl; exact rfl; exact rfl)))
      (with_reducible apply ret_ok); (focus (repeat' (first | (with_reducible apply rv_nil) | (with_reducible apply rv_cons) | ((with_reducible apply rv_rowd); exact rfl; exact rfl; exact tyOk rfl; exact rfl; exact rfl)))); exact rfl; refine SubD.of_eq ?_
      rfl
theorem sof_pc (c : ByteArray) : ∀ x : Ex, x.ok → x.i64 → PC Tryd.prog 50 [.ag x.cs, strD c] (rgD (spanF c x))
  | .lit v, h, _ => of_all c (.lit v) h (by show (1 : Nat) ≠ 15; omega) (.inl (by show 1 < 9; omega))
  | .col n, h, _ => of_all c (.col n) h (by show (2 : Nat) ≠ 15; omega) (.inl (by show 2 < 9; omega))
  | .un op a, h, _ => of_all c (.un op a) h (by have := h.1; unfold un1 at this; show op ≠ 15; omega) (by have := h.1; unfold un1 at this; show op < 9 ∨ op > 14; omega)
  | .bi op a b, h, hi => by
    by_cases h15 : op = 15
    · subst h15
      rw [spanF, if_pos rfl]
      exact of_and c a b _ _ (sof_pc c a h.2.1 hi.1) (sof_pc c b h.2.2 hi.2)
    · by_cases hr : op < 9 ∨ op > 14
      · rw [span_other h h15 hr]
        exact of_all c (.bi op a b) h h15 hr
      · exact of_cmp c op a b (by omega) h.2.1 h.2.2 hi.1 hi.2
theorem sOf_pc (c : ByteArray) (x : Ex) (hok : x.ok) (hi : x.i64) (hd : x.deep ≤ 7) (hn : x.num ≤ 40) : PC Tryd.prog 23 [.ag x.cs, strD c] (.tu [rgD (spanO c x), iD 0]) := by
  have e1 := expr_check x hok hd hn
  have o1 := sof_pc c x hok hi
  have z1 := none_pc
  unfold spanO
  clear hok hi hd hn
  generalize spanF c x = r at *
  obtain ⟨lo, hi⟩ := r
  have hxl := x.cs_eq
  generalize x.cs = xc at *
  subst hxl
  unfold rgD at *
  dsimp only at *
  by_cases h : lo > hi
  · rw [if_pos h]
    have hc : decide (lo > hi) = true := decide_eq_true h
    clear h
    refine pc_of_aw Tryd.func23 rfl (by kernel_rfl) mixed (by kernel_rfl) (by rw [Tryd.ntmps23]; exact Nat.le_of_ble_eq_true rfl) Tryd.results23 ?_
    repeat (first | (with_reducible first | apply aw_seq | apply aw_reg | apply rp_nil | apply ae_norm | apply aw_skip) | ((with_reducible apply rp); first | ((with_reducible apply does_call_flat); exact rfl; exact rfl; exact (e1); exact rfl) | ((with_reducible apply does_call_flat); exact rfl; exact rfl; exact (o1); exact rfl) | ((with_reducible apply does_move); (conv => lhs; whnf)) | ((with_reducible apply does_assign); (conv => lhs; whnf)) | ((with_reducible apply does_fieldAddr); exact tyOk rfl; exact rfl; exact rfl; decide; exact rfl) | ((with_reducible apply does_load_var); exact tyOk rfl; exact rfl; exact rfl; exact rfl; exact rfl) | ((with_reducible apply does_load_row); exact tyOk rfl; exact rfl; exact rfl; exact rfl; exact Nat.le_of_ble_eq_true rfl; exact rfl) | ((with_reducible apply does_ne); exact rfl; exact rfl) | ((with_reducible apply does_gt); exact rfl; exact rfl)) | ((with_reducible apply rp1); first | ((with_reducible apply does_box_ag); exact rfl; exact rfl) | ((with_reducible apply does_alloc); exact tyOk rfl; exact rfl)) | ((with_reducible apply rpN); ((with_reducible apply does_store_whole); exact tyOk rfl; exact rfl; exact rfl; exact rfl; exact rfl; exact rfl)) | ((with_reducible apply aw_cond); exact rfl; (focus (intro hd; (cases hd; done))); (intro hd; clear hd)))
    refine aw_cond rfl (fun _ => ?_) (fun hd => absurd (hc.symm.trans hd) (by decide))
    repeat (first | (with_reducible first | apply aw_seq | apply aw_reg | apply rp_nil | apply ae_norm | apply aw_ret | apply ae_ret | apply re_ret) | ((with_reducible apply rp); first | ((with_reducible apply does_call_flat); exact rfl; exact rfl; exact (z1); exact rfl) | ((with_reducible apply does_assign); (conv => lhs; whnf))) | ((with_reducible apply rpN); ((with_reducible apply does_store_whole); exact tyOk rfl; exact rfl; exact rfl; exact rfl; exact rfl; exact rfl)))
    (with_reducible apply ret_ok); (focus (repeat' (first | (with_reducible apply rv_nil) | (with_reducible apply rv_cons) | ((with_reducible apply rv_tmp); exact rfl) | ((with_reducible apply rv_rowd); exact rfl; exact rfl; exact tyOk rfl; exact rfl; exact rfl)))); exact rfl; refine SubD.of_eq ?_
    rfl
  · rw [if_neg h]
    have hc : decide (lo > hi) = false := decide_eq_false h
    clear h
    refine pc_of_aw Tryd.func23 rfl (by kernel_rfl) mixed (by kernel_rfl) (by rw [Tryd.ntmps23]; exact Nat.le_of_ble_eq_true rfl) Tryd.results23 ?_
    repeat (first | (with_reducible first | apply aw_seq | apply aw_reg | apply rp_nil | apply ae_norm | apply aw_skip) | ((with_reducible apply rp); first | ((with_reducible apply does_call_flat); exact rfl; exact rfl; exact (e1); exact rfl) | ((with_reducible apply does_call_flat); exact rfl; exact rfl; exact (o1); exact rfl) | ((with_reducible apply does_move); (conv => lhs; whnf)) | ((with_reducible apply does_assign); (conv => lhs; whnf)) | ((with_reducible apply does_fieldAddr); exact tyOk rfl; exact rfl; exact rfl; decide; exact rfl) | ((with_reducible apply does_load_var); exact tyOk rfl; exact rfl; exact rfl; exact rfl; exact rfl) | ((with_reducible apply does_load_row); exact tyOk rfl; exact rfl; exact rfl; exact rfl; exact Nat.le_of_ble_eq_true rfl; exact rfl) | ((with_reducible apply does_ne); exact rfl; exact rfl) | ((with_reducible apply does_gt); exact rfl; exact rfl)) | ((with_reducible apply rp1); first | ((with_reducible apply does_box_ag); exact rfl; exact rfl) | ((with_reducible apply does_alloc); exact tyOk rfl; exact rfl)) | ((with_reducible apply rpN); ((with_reducible apply does_store_whole); exact tyOk rfl; exact rfl; exact rfl; exact rfl; exact rfl; exact rfl)) | ((with_reducible apply aw_cond); exact rfl; (focus (intro hd; (cases hd; done))); (intro hd; clear hd)))
    refine aw_cond rfl (fun hd => absurd (hc.symm.trans hd) (by decide)) (fun _ => ?_)
    repeat (first | (with_reducible first | apply aw_seq | apply aw_reg | apply rp_nil | apply ae_norm | apply aw_ret | apply re_ret | apply aw_skip) | ((with_reducible apply rp); first | ((with_reducible apply does_assign); (conv => lhs; whnf)) | ((with_reducible apply does_load_row); exact tyOk rfl; exact rfl; exact rfl; exact rfl; exact Nat.le_of_ble_eq_true rfl; exact rfl)) | ((with_reducible apply rpN); ((with_reducible apply does_store_whole); exact tyOk rfl; exact rfl; exact rfl; exact rfl; exact rfl; exact rfl)))
    (with_reducible apply ret_ok); (focus (repeat' (first | (with_reducible apply rv_nil) | (with_reducible apply rv_cons) | ((with_reducible apply rv_tmp); exact rfl) | ((with_reducible apply rv_rowd); exact rfl; exact rfl; exact tyOk rfl; exact rfl; exact rfl)))); exact rfl; refine SubD.of_eq ?_
    rfl
end Go.Proofs.YtpaccaojgbfjdaaDoor

