/-
  chirographkeep.heapOf. No condition.
-/
import Derived.Test.YtlpnnnmdkglkcaaDoorZHeapC
namespace Go.Proofs.YtlpnnnmdkglkcaaDoor
set_option linter.unusedSimpArgs false
set_option linter.unusedVariables false
open Go.RowKit

abbrev colsH (l : List Raw) : List Cl := colsF (l.take (l.length % 4))
set_option maxHeartbeats 1000000 in
theorem heapOf_pg (l : List Raw) : PG Tryd.prog 40 [.d (rawsD l)] [] [] (.px 2000 0) [] [(2000, .var 83 [.d (rawsD (l.take 40)), .d (iD 0), .d (colsD (colsF (l.take (l.length % 4))))])] := by
  have s1 := some_pc l 40
  have hm : (l.length : Int) % ((4 : Nat) : Int) = ((l.length % 4 : Nat) : Int) := by omega
  have p1 := picked_pc (l.length : Int) 4 (by omega) (by omega)
  rw [hm] at p1
  have s2 := some_pc l (l.length % 4)
  have c1 := cols_pc (l.take (l.length % 4))
  generalize l.take (l.length % 4) = q at *
  generalize l.take 40 = t at *
  generalize colsF q = cs at *
  refine pg_of_aw Tryd.func40 rfl (by kernel_rfl) mixed (by kernel_rfl) (by rw [Tryd.ntmps40]; exact Nat.le_of_ble_eq_true rfl) Tryd.results40 rfl ?_
  repeat (first | (with_reducible first | apply aw_seq | apply aw_reg | apply rp_nil | apply ae_norm | apply aw_ret | apply xg_ret) | ((with_reducible apply rp); first | ((with_reducible apply does_call'); exact rfl; exact rfl; exact rfl; exact (s1)) | ((with_reducible apply does_call_flat); exact rfl; exact rfl; exact (p1); exact rfl) | ((with_reducible apply does_call'); exact rfl; exact rfl; exact rfl; exact (s2)) | ((with_reducible apply does_call'); exact rfl; exact rfl; exact rfl; exact (c1)) | ((with_reducible apply does_move); (conv => lhs; whnf)) | ((with_reducible apply does_assign); (conv => lhs; whnf)) | ((with_reducible apply does_len_map); exact tyOk rfl; exact rfl; exact rfl) | ((with_reducible apply does_build); exact tyOk rfl; exact rfl; exact rfl; (focus repeat' (first | exact rfl | refine ⟨_, _, rfl, rfl, Nat.le_of_ble_eq_true rfl, rfl, ?_⟩)); exact rfl)) | ((with_reducible apply rp1); ((with_reducible apply does_box_ag); exact rfl; exact rfl)))
  (with_reducible apply retg_ok (l := [(2000, 12)])); (focus (repeat' (first | (with_reducible apply rv_nil) | (with_reducible apply rv_cons) | ((with_reducible apply rv_tmp); exact rfl)))); rotate_left; refine ⟨(by repeat' exact ks_nil), (by repeat' (first | exact trivial | exact rfl | refine And.intro ?_ ?_)), rfl, (by repeat' (first | exact trivial | refine And.intro ?_ ?_)), (by repeat' (first | exact trivial | refine And.intro ?_ ?_))⟩; refine SubA.of_eq ?_
  rfl
end Go.Proofs.YtlpnnnmdkglkcaaDoor

