/-
  expr.size, wants, node, nodes, Check of an expression that may be. No condition but its size.
-/
import Derived.Test.YtnkpnnphmimagaaDoorZLexN
import Derived.Test.YtnkpnnphmimagaaDoorZVal
namespace Go.Proofs.YtnkpnnphmimagaaDoor
set_option linter.unusedSimpArgs false
set_option linter.unusedVariables false
open Go.RowKit

abbrev argsD (l : List Ex) : D := .sl 7 (l.map Ex.cs)
set_option maxHeartbeats 1000000 in
theorem size_pc : ∀ (f : Nat) (x : Ex) (d : Nat), x.deep ≤ f → d + x.deep ≤ 8 → x.num ≤ 40 → PC Tryd.prog 66 [.ag x.cs, iD d] (.tu [iD x.num, bD true])
  | 0, x, d, hf, _, _ => absurd hf (by have := x.deep_pos; omega)
  | f + 1, x, d, hf, hd8, hn => by
    have ih := size_pc f
    have hdp := fun a => Ex.deep_arg (x := x) (a := a)
    have hxp := x.deep_pos
    have hnum := x.num_eq
    have hal := x.args_len
    have hn2 : 1 + numL x.args ≤ 40 := by omega
    rw [hnum, Ex.cs_eq]
    clear hn hnum
    generalize x.op = op
    generalize x.val = v
    generalize x.nam = nm
    generalize x.args = l at *
    refine pc_of_aw Tryd.func66 rfl (by kernel_rfl) mixed (by kernel_rfl) (by rw [Tryd.ntmps66]; exact Nat.le_of_ble_eq_true rfl) Tryd.results66 ?_
    repeat (first | (with_reducible first | apply aw_seq | apply aw_reg | apply rp_nil | apply ae_norm) | ((with_reducible apply rp); first | ((with_reducible apply does_move); (conv => lhs; whnf)) | ((with_reducible apply does_assign); (conv => lhs; whnf)) | ((with_reducible apply does_gt); exact rfl; exact rfl)) | ((with_reducible apply rp1); ((with_reducible apply does_box_ag); exact rfl; exact rfl)))
    refine aw_cond rfl (fun hd => absurd hd (by simp; omega)) (fun hd => ?_)
    clear hd
    repeat (first | (with_reducible first | apply aw_seq | apply aw_reg | apply rp_nil | apply ae_norm | apply aw_block | apply aw_skip) | ((with_reducible apply rp); first | ((with_reducible apply does_move); (conv => lhs; whnf)) | ((with_reducible apply does_assign); (conv => lhs; whnf)) | ((with_reducible apply does_fieldAddr); exact tyOk rfl; exact rfl; exact rfl; decide; exact rfl) | ((with_reducible apply does_load_var); exact tyOk rfl; exact rfl; exact rfl; exact rfl; exact rfl) | ((with_reducible apply does_len_map); exact tyOk rfl; exact rfl; exact rfl)))
    refine aw_loop (fun m s => ∃ k, k ≤ l.length ∧ m = l.length - k ∧ s = ⟨[(1, .d (iD d)), (6, .d (iD (1 + numL (l.take k) : Nat))), (14, .d (argsD l)), (15, .d (iD l.length)), (16, .d (iD k))], []⟩) _ _ ?_ ⟨0, by omega, rfl, rfl⟩ ?_
    · refine forget_of [] (by repeat' (first | exact ks_nil | (refine ks_cons rfl (by exact SubA.refl _) ?_))) (by repeat' exact trivial) rfl (by repeat' (first | exact trivial | refine And.intro ?_ ?_)) (by repeat' (first | exact trivial | refine And.intro ?_ ?_))
    · rintro m s ⟨k, hk, rfl, rfl⟩
      repeat (first | (with_reducible first | apply aw_seq | apply aw_reg | apply rp_nil | apply ae_norm) | ((with_reducible apply rp); ((with_reducible apply does_lt); exact rfl; exact rfl)))
      refine aw_cond rfl (fun hd => ?_) (fun hd => ?_)
      · have hlt : k < l.length := by simp at hd; omega
        clear hd
        obtain ⟨a, ha⟩ : ∃ a, l[k]? = some a := ⟨_, List.getElem?_eq_getElem hlt⟩
        have ha2 : (l.map Ex.cs)[k]? = some a.cs := by rw [List.getElem?_map, ha]; rfl
        have hm := hdp a (List.mem_of_getElem? ha)
        have ht : numL (l.take (k + 1)) = numL (l.take k) + a.num := by rw [List.take_add_one, ha, numL_app]; rfl
        have hle := numL_le l (k + 1)
        have p1 := ih a (d + 1) (by omega) (by omega) (by omega)
        have hcl := a.cs_eq
        generalize a.num = an at *
        generalize numL (l.take k) = q at *
        generalize a.cs = acs at *
        subst hcl
        repeat (first | (with_reducible first | apply aw_seq | apply aw_reg | apply rp_nil | apply ae_norm | apply aw_block | apply aw_skip) | ((first | (with_reducible apply rp) | ((with_reducible apply rpG); exact rfl; exact gval_f rfl; (focus repeat' (first | exact trivial | exact fun h => h | refine And.intro ?_ ?_)); intro hgd; have hgd0 := hgd; (try simp only [decide_eq_true_eq, Bool.and_eq_true, Bool.not_eq_true', beq_iff_eq] at hgd))); first | ((with_reducible apply does_call_flat); exact rfl; exact rfl; exact (p1); exact rfl) | ((with_reducible apply does_move); (conv => lhs; whnf)) | ((with_reducible apply does_assign); (conv => lhs; whnf)) | ((with_reducible apply does_or); exact rfl; exact rfl; exact rfl; exact fun h => h) | ((with_reducible apply does_load_row); exact tyOk rfl; exact rfl; exact rfl; exact rfl; exact Nat.le_of_ble_eq_true rfl; exact rfl) | ((with_reducible apply does_load_elem_whole); exact tyOk rfl; exact rfl; exact rfl; assumption; exact rfl) | ((with_reducible apply does_index_sl); exact tyOk rfl; exact rfl; exact tyOk rfl; exact rfl; exact rfl; exact rfl; exact rfl; (simp only [List.length_map, List.length_append, List.length_cons, List.length_nil] at *; omega)) | ((with_reducible apply does_gt); exact rfl; exact rfl) | ((with_reducible apply does_add); exact rfl; exact rfl; omega; omega) | ((with_reducible apply does_not); exact rfl) | ((with_reducible apply does_extract); exact rfl; exact rfl)) | ((with_reducible apply rp1); ((with_reducible apply does_alloc); exact tyOk rfl; exact rfl)) | ((with_reducible apply rpN); ((with_reducible apply does_store_whole); exact tyOk rfl; exact rfl; exact rfl; exact rfl; exact rfl; exact rfl)))
        refine aw_cond rfl (fun hd => absurd hd (by simp; omega)) (fun hd => ?_)
        clear hd
        repeat (first | (with_reducible first | apply aw_reg | apply rp_nil | apply ae_norm | apply be_norm | apply aw_skip) | ((with_reducible apply rp); first | ((with_reducible apply does_move); (conv => lhs; whnf)) | ((with_reducible apply does_add); exact rfl; exact rfl; omega; omega)))
        refine ⟨_, _, ?_, ?_, k + 1, by omega, rfl, rfl⟩
        · omega
        · rw [ht, ← Nat.add_assoc]
          refine forget_of [] (by repeat' (first | exact ks_nil | (refine ks_cons rfl (by exact SubA.refl _) ?_))) (by repeat' exact trivial) rfl (by repeat' (first | exact trivial | refine And.intro ?_ ?_)) (by repeat' (first | exact trivial | refine And.intro ?_ ?_))
      · have hke : k = l.length := by simp at hd; omega
        clear hd
        subst hke
        repeat (first | (with_reducible first | apply aw_seq | apply aw_reg | apply rp_nil | apply ae_norm | apply aw_exit | apply ae_exit | apply be_exit | apply aw_ret | apply re_ret) | ((with_reducible apply rp); first | ((with_reducible apply does_move); (conv => lhs; whnf)) | ((with_reducible apply does_assign); (conv => lhs; whnf))))
        (with_reducible apply ret_ok); (focus (repeat' (first | (with_reducible apply rv_nil) | (with_reducible apply rv_cons) | ((with_reducible apply rv_tmp); exact rfl)))); exact rfl; refine SubD.of_eq ?_
        rw [List.take_length]
        rfl
theorem wants_leaf (op : Nat) (h : op = 1 ∨ op = 2) : PC Tryd.prog 89 [iD op] (iD 0) := by
  rcases h with rfl | rfl
  · refine pc_of_aw Tryd.func89 rfl (by kernel_rfl) mixed (by kernel_rfl) (by rw [Tryd.ntmps89]; exact Nat.le_of_ble_eq_true rfl) Tryd.results89 ?_
    repeat (first | (with_reducible first | apply aw_seq | apply aw_reg | apply rp_nil | apply ae_norm | apply aw_block | apply aw_ret | apply ae_ret | apply be_ret | apply re_ret | apply aw_skip) | ((with_reducible apply rp); first | ((with_reducible apply does_move); (conv => lhs; whnf)) | ((with_reducible apply does_assign); (conv => lhs; whnf)) | ((with_reducible apply does_eq); exact rfl; exact rfl)) | ((with_reducible apply aw_cond); exact rfl; rotate_left; (focus (intro hd; (cases hd; done))); (intro hd; clear hd)))
    (with_reducible apply ret_ok); (focus (repeat' (first | (with_reducible apply rv_nil) | (with_reducible apply rv_cons) | ((with_reducible apply rv_tmp); exact rfl)))); exact rfl; refine SubD.of_eq ?_
    rfl
  · refine pc_of_aw Tryd.func89 rfl (by kernel_rfl) mixed (by kernel_rfl) (by rw [Tryd.ntmps89]; exact Nat.le_of_ble_eq_true rfl) Tryd.results89 ?_
    repeat (first | (with_reducible first | apply aw_seq | apply aw_reg | apply rp_nil | apply ae_norm | apply aw_block | apply aw_ret | apply ae_ret | apply be_ret | apply re_ret) | ((with_reducible apply rp); first | ((with_reducible apply does_move); (conv => lhs; whnf)) | ((with_reducible apply does_assign); (conv => lhs; whnf)) | ((with_reducible apply does_eq); exact rfl; exact rfl)) | ((with_reducible apply aw_cond); exact rfl; (focus (intro hd; (cases hd; done))); (intro hd; clear hd)) | ((with_reducible apply aw_cond); exact rfl; rotate_left; (focus (intro hd; (cases hd; done))); (intro hd; clear hd)))
    (with_reducible apply ret_ok); (focus (repeat' (first | (with_reducible apply rv_nil) | (with_reducible apply rv_cons) | ((with_reducible apply rv_tmp); exact rfl)))); exact rfl; refine SubD.of_eq ?_
    rfl
theorem wants_un (op : Nat) (h : un1 op) : PC Tryd.prog 89 [iD op] (iD 1) := by
  rcases h with rfl | rfl | rfl | rfl
  · refine pc_of_aw Tryd.func89 rfl (by kernel_rfl) mixed (by kernel_rfl) (by rw [Tryd.ntmps89]; exact Nat.le_of_ble_eq_true rfl) Tryd.results89 ?_
    repeat (first | (with_reducible first | apply aw_seq | apply aw_reg | apply rp_nil | apply ae_norm | apply aw_block | apply aw_ret | apply ae_ret | apply be_ret | apply re_ret | apply aw_skip) | ((with_reducible apply rp); first | ((with_reducible apply does_move); (conv => lhs; whnf)) | ((with_reducible apply does_assign); (conv => lhs; whnf)) | ((with_reducible apply does_eq); exact rfl; exact rfl)) | ((with_reducible apply aw_cond); exact rfl; (focus (intro hd; (cases hd; done))); (intro hd; clear hd)) | ((with_reducible apply aw_cond); exact rfl; rotate_left; (focus (intro hd; (cases hd; done))); (intro hd; clear hd)))
    (with_reducible apply ret_ok); (focus (repeat' (first | (with_reducible apply rv_nil) | (with_reducible apply rv_cons) | ((with_reducible apply rv_tmp); exact rfl)))); exact rfl; refine SubD.of_eq ?_
    rfl
  · refine pc_of_aw Tryd.func89 rfl (by kernel_rfl) mixed (by kernel_rfl) (by rw [Tryd.ntmps89]; exact Nat.le_of_ble_eq_true rfl) Tryd.results89 ?_
    repeat (first | (with_reducible first | apply aw_seq | apply aw_reg | apply rp_nil | apply ae_norm | apply aw_block | apply aw_ret | apply ae_ret | apply be_ret | apply re_ret | apply aw_skip) | ((with_reducible apply rp); first | ((with_reducible apply does_move); (conv => lhs; whnf)) | ((with_reducible apply does_assign); (conv => lhs; whnf)) | ((with_reducible apply does_eq); exact rfl; exact rfl)) | ((with_reducible apply aw_cond); exact rfl; (focus (intro hd; (cases hd; done))); (intro hd; clear hd)) | ((with_reducible apply aw_cond); exact rfl; rotate_left; (focus (intro hd; (cases hd; done))); (intro hd; clear hd)))
    (with_reducible apply ret_ok); (focus (repeat' (first | (with_reducible apply rv_nil) | (with_reducible apply rv_cons) | ((with_reducible apply rv_tmp); exact rfl)))); exact rfl; refine SubD.of_eq ?_
    rfl
  · refine pc_of_aw Tryd.func89 rfl (by kernel_rfl) mixed (by kernel_rfl) (by rw [Tryd.ntmps89]; exact Nat.le_of_ble_eq_true rfl) Tryd.results89 ?_
    repeat (first | (with_reducible first | apply aw_seq | apply aw_reg | apply rp_nil | apply ae_norm | apply aw_block | apply aw_ret | apply ae_ret | apply be_ret | apply re_ret | apply aw_skip) | ((with_reducible apply rp); first | ((with_reducible apply does_move); (conv => lhs; whnf)) | ((with_reducible apply does_assign); (conv => lhs; whnf)) | ((with_reducible apply does_eq); exact rfl; exact rfl)) | ((with_reducible apply aw_cond); exact rfl; (focus (intro hd; (cases hd; done))); (intro hd; clear hd)) | ((with_reducible apply aw_cond); exact rfl; rotate_left; (focus (intro hd; (cases hd; done))); (intro hd; clear hd)))
    (with_reducible apply ret_ok); (focus (repeat' (first | (with_reducible apply rv_nil) | (with_reducible apply rv_cons) | ((with_reducible apply rv_tmp); exact rfl)))); exact rfl; refine SubD.of_eq ?_
    rfl
  · refine pc_of_aw Tryd.func89 rfl (by kernel_rfl) mixed (by kernel_rfl) (by rw [Tryd.ntmps89]; exact Nat.le_of_ble_eq_true rfl) Tryd.results89 ?_
    repeat (first | (with_reducible first | apply aw_seq | apply aw_reg | apply rp_nil | apply ae_norm | apply aw_block | apply aw_ret | apply ae_ret | apply be_ret | apply re_ret) | ((with_reducible apply rp); first | ((with_reducible apply does_move); (conv => lhs; whnf)) | ((with_reducible apply does_assign); (conv => lhs; whnf)) | ((with_reducible apply does_eq); exact rfl; exact rfl)) | ((with_reducible apply aw_cond); exact rfl; (focus (intro hd; (cases hd; done))); (intro hd; clear hd)) | ((with_reducible apply aw_cond); exact rfl; rotate_left; (focus (intro hd; (cases hd; done))); (intro hd; clear hd)))
    (with_reducible apply ret_ok); (focus (repeat' (first | (with_reducible apply rv_nil) | (with_reducible apply rv_cons) | ((with_reducible apply rv_tmp); exact rfl)))); exact rfl; refine SubD.of_eq ?_
    rfl
theorem wants_bi (op : Nat) (h : bi2 op) : PC Tryd.prog 89 [iD op] (iD 2) := by
  obtain ⟨h1, h2, h3, h4⟩ := h
  refine pc_of_aw Tryd.func89 rfl (by kernel_rfl) mixed (by kernel_rfl) (by rw [Tryd.ntmps89]; exact Nat.le_of_ble_eq_true rfl) Tryd.results89 ?_
  repeat (first | (with_reducible first | apply aw_seq | apply aw_reg | apply rp_nil | apply ae_norm | apply aw_block | apply be_norm | apply aw_ret | apply re_ret | apply aw_skip) | ((with_reducible apply rp); first | ((with_reducible apply does_move); (conv => lhs; whnf)) | ((with_reducible apply does_assign); (conv => lhs; whnf)) | ((with_reducible apply does_eq); exact rfl; exact rfl)) | ((with_reducible apply aw_cond); exact rfl; (focus (intro hd; (exfalso; simp at hd; omega))); (intro hd; clear hd)))
  (with_reducible apply ret_ok); (focus (repeat' (first | (with_reducible apply rv_nil) | (with_reducible apply rv_cons) | ((with_reducible apply rv_tmp); exact rfl)))); exact rfl; refine SubD.of_eq ?_
  rfl
end Go.Proofs.YtnkpnnphmimagaaDoor

