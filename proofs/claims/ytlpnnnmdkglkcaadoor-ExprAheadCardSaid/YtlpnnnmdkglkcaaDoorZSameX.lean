/-
  chirographkeep.sameExpr tells that an expression is itself. No condition.
-/
import Derived.Test.YtlpnnnmdkglkcaaDoorZRdv
namespace Go.Proofs.YtlpnnnmdkglkcaaDoor
set_option linter.unusedSimpArgs false
set_option linter.unusedVariables false
open Go.RowKit

set_option maxHeartbeats 2000000 in
theorem sameX_step (x : Ex) (ih : ∀ a ∈ x.args, PC Tryd.prog 25 [.ag a.cs, .ag a.cs] (bD true)) : PC Tryd.prog 25 [.ag x.cs, .ag x.cs] (bD true) := by
  have hl := x.args_len
  have hxl := x.cs_eq
  generalize x.cs = c at *
  subst hxl
  have hc : ((x.op : Int) != x.op || !(x.val.k == x.val.k && (x.val.n == x.val.n && ((x.val.b : Int) == x.val.b && (x.val.t.toList == x.val.t.toList && true)))) || !(x.nam.toList == x.nam.toList) || ((x.args.length : Nat) : Int) != x.args.length) = false := by simp
  refine pc_of_aw Tryd.func25 rfl (by kernel_rfl) mixed (by kernel_rfl) (by rw [Tryd.ntmps25]; exact Nat.le_of_ble_eq_true rfl) Tryd.results25 ?_
  repeat (first | (with_reducible first | apply aw_seq | apply aw_reg | apply rp_nil | apply ae_norm) | ((first | (with_reducible apply rp) | ((with_reducible apply rpG); exact rfl; exact gval_f rfl; (focus repeat' (first | exact trivial | exact fun h => h | refine And.intro ?_ ?_)); intro hgd; have hgd0 := hgd; (try simp only [decide_eq_true_eq, Bool.and_eq_true, Bool.not_eq_true', beq_iff_eq] at hgd))); first | ((with_reducible apply does_move); (conv => lhs; whnf)) | ((with_reducible apply does_assign); (conv => lhs; whnf)) | ((with_reducible apply does_or); exact rfl; exact rfl; exact rfl; exact fun h => h) | ((with_reducible apply does_fieldAddr); exact tyOk rfl; exact rfl; exact rfl; decide; exact rfl) | ((with_reducible apply does_load_var); exact tyOk rfl; exact rfl; exact rfl; exact rfl; exact rfl) | ((with_reducible apply does_load_row); exact tyOk rfl; exact rfl; exact rfl; exact rfl; exact Nat.le_of_ble_eq_true rfl; exact rfl) | ((with_reducible apply does_ne); exact rfl; exact rfl) | ((with_reducible apply does_sne); exact rfl; exact rfl) | ((with_reducible apply does_neS); exact rfl; exact rfl; exact tgOk rfl; exact rfl) | ((with_reducible apply does_len_map); exact tyOk rfl; exact rfl; exact rfl)) | ((with_reducible apply rp1); ((with_reducible apply does_box_ag); exact rfl; exact rfl)))
  refine aw_cond rfl (fun hd => ?_) (fun hd => ?_)
  · exfalso
    simp at hd
  clear hd
  repeat (first | (with_reducible first | apply aw_seq | apply aw_reg | apply rp_nil | apply ae_norm | apply aw_block | apply aw_skip) | ((with_reducible apply rp); first | ((with_reducible apply does_move); (conv => lhs; whnf)) | ((with_reducible apply does_fieldAddr); exact tyOk rfl; exact rfl; exact rfl; decide; exact rfl) | ((with_reducible apply does_load_var); exact tyOk rfl; exact rfl; exact rfl; exact rfl; exact rfl) | ((with_reducible apply does_len_map); exact tyOk rfl; exact rfl; exact rfl)))
  refine aw_loop (fun m s => ∃ k, k ≤ x.args.length ∧ m = x.args.length - k ∧ s = ⟨[(2, .px 2 0), (3, .px 3 0), (36, .d (iD x.args.length)), (37, .d (iD k))],
    [(2, .var 53 [.d (iD x.op), .d (iD x.val.k), .d (iD x.val.n), .d (qD x.val.b), .d (strD x.val.t), .d (strD x.nam), .d (.sl 7 (x.args.map Ex.cs))]), (3, .var 53 [.d (iD x.op), .d (iD x.val.k), .d (iD x.val.n), .d (qD x.val.b), .d (strD x.val.t), .d (strD x.nam), .d (.sl 7 (x.args.map Ex.cs))])]⟩) _ _ ?_ ⟨0, by omega, rfl, rfl⟩ ?_
  · refine forget_of [] (by repeat' (first | exact ks_nil | (refine ks_cons rfl (by exact SubA.refl _) ?_))) (by repeat' (first | exact trivial | exact rfl | refine And.intro ?_ ?_)) rfl (by repeat' (first | exact trivial | exact inB_px rfl | refine And.intro ?_ ?_)) (by repeat' (first | exact trivial | exact inB_px rfl | refine And.intro ?_ ?_))
  · rintro m s ⟨k, hk, rfl, rfl⟩
    repeat (first | (with_reducible first | apply aw_seq | apply aw_reg | apply rp_nil | apply ae_norm) | ((with_reducible apply rp); ((with_reducible apply does_lt); exact rfl; exact rfl)))
    refine aw_cond rfl (fun hd => ?_) (fun hd => ?_)
    · have hlt : k < x.args.length := by simp at hd; omega
      clear hd
      obtain ⟨a, ha⟩ : ∃ a, x.args[k]? = some a := ⟨_, List.getElem?_eq_getElem hlt⟩
      have ha2 : (x.args.map Ex.cs)[k]? = some a.cs := by rw [List.getElem?_map, ha]; rfl
      have i1 := ih a (List.mem_of_getElem? ha)
      have hal := a.cs_eq
      generalize a.cs = ac at *
      subst hal
      repeat (first | (with_reducible first | apply aw_seq | apply aw_reg | apply rp_nil | apply ae_norm | apply aw_regD | apply aw_block | apply be_norm | apply aw_skip) | ((with_reducible apply dr_nil); (first | kernel_rfl | exact rfl)) | ((with_reducible first | apply rp | apply dr); first | ((with_reducible apply does_call_flat); exact rfl; exact rfl; exact (i1); exact rfl) | ((with_reducible apply does_move); (conv => lhs; whnf)) | ((with_reducible apply does_assign); (conv => lhs; whnf)) | ((with_reducible apply does_fieldAddr); exact tyOk rfl; exact rfl; exact rfl; decide; exact rfl) | ((with_reducible apply does_load_var); exact tyOk rfl; exact rfl; exact rfl; exact rfl; exact rfl) | ((with_reducible apply does_load_elem_whole); exact tyOk rfl; exact rfl; exact rfl; assumption; exact rfl) | ((with_reducible apply does_index_sl); exact tyOk rfl; exact rfl; exact tyOk rfl; exact rfl; exact rfl; exact rfl; exact rfl; (simp only [List.length_map, List.length_append, List.length_cons, List.length_nil] at *; omega)) | ((with_reducible apply does_add); exact rfl; exact rfl; omega; omega) | ((with_reducible apply does_not); exact rfl)) | ((with_reducible apply aw_cond); exact rfl; (focus (intro hd; (cases hd; done))); (intro hd; clear hd)))
      refine ⟨_, _, ?_, ?_, k + 1, by omega, rfl, rfl⟩
      · omega
      · refine forget_of [] (by repeat' (first | exact ks_nil | (refine ks_cons rfl (by exact SubA.refl _) ?_))) (by repeat' (first | exact trivial | exact rfl | refine And.intro ?_ ?_)) rfl (by repeat' (first | exact trivial | exact inB_px rfl | refine And.intro ?_ ?_)) (by repeat' (first | exact trivial | exact inB_px rfl | refine And.intro ?_ ?_))
    · have hke : k = x.args.length := by simp at hd; omega
      clear hd
      subst hke
      repeat (first | (with_reducible first | apply aw_seq | apply aw_reg | apply rp_nil | apply ae_norm | apply aw_exit | apply ae_exit | apply be_exit | apply aw_ret | apply re_ret) | ((with_reducible apply rp); ((with_reducible apply does_assign); (conv => lhs; whnf))))
      (with_reducible apply ret_ok); (focus (repeat' (first | (with_reducible apply rv_nil) | (with_reducible apply rv_cons) | ((with_reducible apply rv_tmp); exact rfl)))); exact rfl; refine SubD.of_eq ?_
      rfl
theorem sameX_pc : ∀ x : Ex, PC Tryd.prog 25 [.ag x.cs, .ag x.cs] (bD true)
  | .lit v => sameX_step (.lit v) fun a h => by cases h
  | .col n => sameX_step (.col n) fun a h => by cases h
  | .un op a => sameX_step (.un op a) fun b h => by
    have h : b = a := by simpa [Ex.args] using h
    rw [h]; exact sameX_pc a
  | .bi op a b => sameX_step (.bi op a b) fun c h => by
    have h : c = a ∨ c = b := by simpa [Ex.args] using h
    rcases h with h | h
    · rw [h]; exact sameX_pc a
    · rw [h]; exact sameX_pc b
end Go.Proofs.YtlpnnnmdkglkcaaDoor

