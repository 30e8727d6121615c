/-
  chirographkeep.exprOf as a contract. No condition.
-/
import Derived.Test.YtlpnnnmdkglkcaaDoorZH
import Derived.Test.YtlpnnnmdkglkcaaDoorZG
namespace Go.Proofs.YtlpnnnmdkglkcaaDoor
set_option linter.unusedSimpArgs false
set_option linter.unusedVariables false
open Go.RowKit

set_option maxHeartbeats 1000000 in
theorem exprOf_pg (l : List Raw) (kind : Int) : ∃ (x : Ex) (n' : Nat), Gx (colsH l) (1 + (kind % 4).toNat) 4 x ∧ n' ≤ 16 ∧ PG Tryd.prog 22 [.d (rawsD l), .d (iD kind)] [] [] (.tu [.d (.ag x.cs), .d (colsD (colsH l)), .px 2000 0]) []
    [(2000, .var 83 [.d (rawsD (l.take 40)), .d (iD n'), .d (colsD (colsH l))])] := by
  have g1 := heapOf_pg l
  have hc := (colsF_ok (l.take (l.length % 4))).len
  have p4 := picked_pc kind 4 (by omega) (by omega)
  obtain ⟨u, hu⟩ : ∃ u : Nat, (kind % 4).toNat = u := ⟨_, rfl⟩
  rw [show kind % ((4 : Nat) : Int) = (u : Int) by omega] at p4
  have hu4 : u < 4 := by omega
  rw [hu]
  unfold colsH
  generalize colsF (l.take (l.length % 4)) = cols at *
  generalize l.take 40 = q at *
  obtain ⟨x, n', h1, _, h3, e1⟩ := expr_pc q cols (by omega) 3 (1 + u) 0 (by omega) (by omega) (by omega) (by decide)
  have h3 : n' + 1 ≤ 0 + 2 ^ 4 := h3
  refine ⟨x, n', h1, by omega, ?_⟩
  clear h1 h3 hc hu
  unfold hpB at *
  have hxl := x.cs_eq
  generalize x.cs = c at *
  subst hxl
  refine pg_of_aw Tryd.func22 rfl (by kernel_rfl) mixed (by kernel_rfl) (by rw [Tryd.ntmps22]; exact Nat.le_of_ble_eq_true rfl) Tryd.results22 rfl ?_
  repeat (first | (with_reducible first | apply aw_seq | apply aw_reg | apply rp_nil | apply ae_norm | apply aw_ret | apply xg_ret) | ((with_reducible apply rp); first | ((with_reducible apply does_call_flat); exact rfl; exact rfl; exact (p4); exact rfl) | (exact does_add_to (z := ((1 + u : Nat) : Int)) rfl rfl (by omega) (by omega) (by omega)) | ((with_reducible apply does_move); (conv => lhs; whnf)) | ((with_reducible apply does_assign); (conv => lhs; whnf)) | ((with_reducible apply does_fieldAddr); exact tyOk rfl; exact rfl; exact rfl; decide; exact rfl) | ((with_reducible apply does_nilCheck); exact rfl)) | (refine aw_regW [(9, 2)] ?_) | ((with_reducible apply wrC); exact doesW_load (tyOk rfl) rfl rfl rfl rfl) | ((with_reducible apply wr); first | ((with_reducible apply does_call_flat); exact rfl; exact rfl; exact (p4); exact rfl) | (exact does_add_to (z := ((1 + u : Nat) : Int)) rfl rfl (by omega) (by omega) (by omega)) | ((with_reducible apply does_move); (conv => lhs; whnf)) | ((with_reducible apply does_assign); (conv => lhs; whnf)) | ((with_reducible apply does_fieldAddr); exact tyOk rfl; exact rfl; exact rfl; decide; exact rfl) | ((with_reducible apply does_nilCheck); exact rfl)) | ((with_reducible apply wr1); (first | ((with_reducible apply does_alloc); exact tyOk rfl; exact rfl)); exact rfl) | ((with_reducible apply wrN); (first | ((with_reducible apply does_store_whole); exact tyOk rfl; exact rfl; exact rfl; exact rfl; exact rfl; exact rfl)); exact rfl) | ((with_reducible apply w_nil); first | kernel_rfl | exact rfl) | ((with_reducible apply wrL); (refine does_callG' [] [(2000, 9)] (ups := [(9, .var 83 [.d (rawsD q), .d (iD 0), .d (colsD cols)])]) (v := (.px 9 0)) rfl (g1) rfl ?_ rfl ?_ ?_ rfl rfl rfl rfl rfl ?_ ?_ rfl rfl rfl; (focus repeat' (first | exact trivial | exact rfl | refine And.intro ?_ ?_)); (focus repeat' (first | exact trivial | exact inB_px rfl | refine And.intro ?_ ?_)); (focus repeat' (first | exact trivial | exact inB_px rfl | refine And.intro ?_ ?_)); (focus repeat' (first | exact trivial | exact inB_px rfl | refine And.intro ?_ ?_)); (focus repeat' (first | exact trivial | exact inB_px rfl | refine And.intro ?_ ?_))); (first | exact lapp_nil _ | exact lapp_1 _ _ | exact lapp_2 _ _ _ | exact lapp_3 _ _ _ _); exact rfl) | ((with_reducible apply wrL); (refine does_callX [(1000, 9)] [(1000, 9)] (ups := [(9, .var 83 [.d (rawsD q), .d (iD n'), .d (colsD cols)])]) rfl (e1) rfl ?_ rfl ?_ ?_ rfl rfl rfl rfl rfl ?_ rfl rfl; (focus repeat' (first | exact trivial | exact rfl | refine And.intro ?_ ?_)); (focus repeat' (first | exact trivial | exact inB_px rfl | refine And.intro ?_ ?_)); (focus repeat' (first | exact trivial | exact inB_px rfl | refine And.intro ?_ ?_)); (focus repeat' (first | exact trivial | exact inB_px rfl | refine And.intro ?_ ?_))); (first | exact lapp_nil _ | exact lapp_1 _ _ | exact lapp_2 _ _ _ | exact lapp_3 _ _ _ _); exact rfl) | ((with_reducible apply rp1); ((with_reducible apply does_alloc); exact tyOk rfl; exact rfl)) | ((with_reducible first | apply rpN | apply drN); ((with_reducible apply does_store_whole); exact tyOk rfl; exact rfl; exact rfl; exact rfl; exact rfl; exact rfl)) | ((with_reducible apply rpL); (refine does_callG' [] [(2000, 9)] (ups := [(9, .var 83 [.d (rawsD q), .d (iD 0), .d (colsD cols)])]) (v := (.px 9 0)) rfl (g1) rfl ?_ rfl ?_ ?_ rfl rfl rfl rfl rfl ?_ ?_ rfl rfl rfl; (focus repeat' (first | exact trivial | exact rfl | refine And.intro ?_ ?_)); (focus repeat' (first | exact trivial | exact inB_px rfl | refine And.intro ?_ ?_)); (focus repeat' (first | exact trivial | exact inB_px rfl | refine And.intro ?_ ?_)); (focus repeat' (first | exact trivial | exact inB_px rfl | refine And.intro ?_ ?_)); (focus repeat' (first | exact trivial | exact inB_px rfl | refine And.intro ?_ ?_))); exact lapp_nil _) | ((with_reducible apply rpL); (refine does_callX [(1000, 9)] [(1000, 9)] (ups := [(9, .var 83 [.d (rawsD q), .d (iD n'), .d (colsD cols)])]) rfl (e1) rfl ?_ rfl ?_ ?_ rfl rfl rfl rfl rfl ?_ rfl rfl; (focus repeat' (first | exact trivial | exact rfl | refine And.intro ?_ ?_)); (focus repeat' (first | exact trivial | exact inB_px rfl | refine And.intro ?_ ?_)); (focus repeat' (first | exact trivial | exact inB_px rfl | refine And.intro ?_ ?_)); (focus repeat' (first | exact trivial | exact inB_px rfl | refine And.intro ?_ ?_))); exact lapp_nil _))
  (with_reducible apply retg_ok (l := [(2000, 9)])); (focus (repeat' (first | (with_reducible apply rv_nil) | (with_reducible apply rv_cons) | ((with_reducible apply rv_tmp); exact rfl) | ((with_reducible apply rv_rowd); exact rfl; exact rfl; exact tyOk rfl; exact rfl; exact rfl)))); rotate_left; refine ⟨(by repeat' exact ks_nil), (by repeat' (first | exact trivial | exact rfl | refine And.intro ?_ ?_)), rfl, (by repeat' (first | exact trivial | refine And.intro ?_ ?_)), (by repeat' (first | exact trivial | refine And.intro ?_ ?_))⟩; refine SubA.of_eq ?_
  rfl
end Go.Proofs.YtlpnnnmdkglkcaaDoor

