/-
  chirographkeep.spanTells. No condition.
-/
import Derived.Test.YtpaccaojgbfjdaaDoorZSpanTight
namespace Go.Proofs.YtpaccaojgbfjdaaDoor
set_option linter.unusedSimpArgs false
set_option linter.unusedVariables false
open Go.RowKit
open Go.Lib

theorem spanTells_pc : PC Tryd.prog 25 [] (bD true) := by
  have n1 := number_pc 1
  have o1 := sOf_pc aN (.lit (numV 1)) ⟨.int 1, by decide⟩ ⟨by decide, by decide⟩ (by decide) (by decide)
  have o1 : PC Tryd.prog 23 [.ag (Ex.lit (numV 1)).cs, strD aN] (.tu [.ag [iD (-9223372036854775808), iD 9223372036854775807], iD 0]) := o1
  generalize (Ex.lit (numV 1)).cs = c at *
  refine pc_of_aw Tryd.func25 rfl (by kernel_rfl) mixed (by kernel_rfl) (by rw [Tryd.ntmps25]; exact Nat.le_of_ble_eq_true rfl) Tryd.results25 ?_
  repeat (first | (with_reducible first | apply aw_seq | apply aw_reg | apply rp_nil | apply ae_norm | apply aw_ret | apply re_ret) | ((first | (with_reducible apply rp) | ((with_reducible apply rpG); exact rfl; exact gval_t rfl; (focus repeat' (first | exact trivial | exact fun h => h | refine And.intro ?_ ?_)); intro hgd; have hgd0 := hgd; (try simp only [decide_eq_true_eq, Bool.and_eq_true, Bool.not_eq_true', beq_iff_eq] at hgd))); first | ((with_reducible apply does_call'); exact rfl; exact rfl; exact rfl; exact (n1)) | ((with_reducible apply does_call_flat); exact rfl; exact rfl; exact (o1); exact rfl) | ((with_reducible apply does_move); (conv => lhs; whnf)) | ((with_reducible apply does_assign); (conv => lhs; whnf)) | ((with_reducible apply does_and); exact rfl; exact rfl; exact rfl; exact fun h => h) | ((with_reducible apply does_load_row); exact tyOk rfl; exact rfl; exact rfl; exact rfl; exact Nat.le_of_ble_eq_true rfl; exact rfl) | ((with_reducible apply does_eq); exact rfl; exact rfl) | ((with_reducible apply does_eqS); exact rfl; exact rfl; exact tgOk rfl; exact rfl) | ((with_reducible apply does_extract); exact rfl; exact rfl) | ((with_reducible apply does_build); exact tyOk rfl; exact rfl; exact rfl; (focus repeat' (first | exact rfl | refine ⟨_, _, rfl, rfl, Nat.le_of_ble_eq_true rfl, rfl, ?_⟩)); exact rfl)) | ((with_reducible apply rp1); ((with_reducible apply does_alloc); exact tyOk rfl; exact rfl)) | ((with_reducible apply rpN); ((with_reducible apply does_store_whole); exact tyOk rfl; exact rfl; exact rfl; exact rfl; exact rfl; exact rfl)))
  (with_reducible apply ret_ok); (focus (repeat' (first | (with_reducible apply rv_nil) | (with_reducible apply rv_cons) | ((with_reducible apply rv_tmp); exact rfl)))); exact rfl; refine SubD.of_eq ?_
  simp
  rfl
end Go.Proofs.YtpaccaojgbfjdaaDoor

