/-
  eval.Eval as a contract. No condition but that the expression, the columns and the row may be.
-/
import Derived.Test.YtpaccaojgbfjdaaDoorZEv4
import Derived.Test.YtpaccaojgbfjdaaDoorZEv5R
namespace Go.Proofs.YtpaccaojgbfjdaaDoor
set_option linter.unusedSimpArgs false
set_option linter.unusedVariables false
open Go.RowKit
open Go.Lib

set_option maxHeartbeats 2000000 in
theorem eval_pc (cols : List Cl) (hc : ColsOk cols) (row : List Vl) (hr : FitR row cols) (x : Ex) (hok : x.ok) (hd : x.deep ≤ 7) (hn : x.num ≤ 40) : PC Tryd.prog 24 [.ag x.cs, colsD cols, valsD row] (tvD (if (evF cols row x).e = 0 then evF cols row x else .bad (evF cols row x).e)) := by
  have e1 := expr_check x hok hd hn
  have r1 := kRow_pc row cols hc hr
  have t1 := thingOf_pc cols (by have := hc.len; omega) x
  obtain ⟨T, v, f, d0, he, hi, hdd, hp⟩ := eof_pc cols row hr.len (by have := hc.len; have := hr.len; omega) hr.gd x hok
  rw [he] at t1
  clear hok hd hn hc hr he
  generalize evF cols row x = r at *
  obtain ⟨⟨rk, rn, rb, rt⟩, re⟩ := r
  have hxl := x.cs_eq
  generalize x.cs = c at *
  subst hxl
  unfold tvD Vl.cs at *
  dsimp only at *
  by_cases hz : re = 0
  · subst hz
    rw [if_pos rfl]
    refine pc_of_aw Tryd.func24 rfl (by kernel_rfl) mixed (by kernel_rfl) (by rw [Tryd.ntmps24]; exact Nat.le_of_ble_eq_true rfl) Tryd.results24 ?_
    repeat (first | (with_reducible first | apply aw_seq | apply aw_reg | apply rp_nil | apply ae_norm | apply aw_ret | apply re_ret | apply aw_skip) | ((with_reducible apply rp); first | ((with_reducible apply does_call_flat); exact rfl; exact rfl; exact (e1); exact rfl) | ((with_reducible apply does_call_flat); exact rfl; exact rfl; exact (r1); exact rfl) | ((with_reducible apply does_call_flat); exact rfl; exact rfl; exact (t1); exact rfl) | (exact does_invoke rfl hi hdd rfl hp) | ((with_reducible apply does_move); (conv => lhs; whnf)) | ((with_reducible apply does_assign); (conv => lhs; whnf)) | ((with_reducible apply does_load_row); exact tyOk rfl; exact rfl; exact rfl; exact rfl; exact Nat.le_of_ble_eq_true rfl; exact rfl) | ((with_reducible apply does_ne); exact rfl; exact rfl) | ((with_reducible apply does_extract); exact rfl; exact rfl)) | ((with_reducible apply rp1); first | ((with_reducible apply does_box_ag); exact rfl; exact rfl) | ((with_reducible apply does_alloc); exact tyOk rfl; exact rfl)) | ((with_reducible apply rpN); ((with_reducible apply does_store_whole); exact tyOk rfl; exact rfl; exact rfl; exact rfl; exact rfl; exact rfl)) | ((with_reducible apply aw_cond); exact rfl; (focus (intro hd; (cases hd; done))); (intro hd; clear hd)))
    (with_reducible apply ret_ok); (focus (repeat' (first | (with_reducible apply rv_nil) | (with_reducible apply rv_cons) | ((with_reducible apply rv_tmp); exact rfl) | ((with_reducible apply rv_rowd); exact rfl; exact rfl; exact tyOk rfl; exact rfl; exact rfl)))); exact rfl; refine SubD.of_eq ?_
    rfl
  · rw [if_neg hz]
    refine pc_of_aw Tryd.func24 rfl (by kernel_rfl) mixed (by kernel_rfl) (by rw [Tryd.ntmps24]; exact Nat.le_of_ble_eq_true rfl) Tryd.results24 ?_
    repeat (first | (with_reducible first | apply aw_seq | apply aw_reg | apply rp_nil | apply ae_norm | apply aw_ret | apply ae_ret | apply re_ret | apply aw_skip) | ((with_reducible apply rp); first | ((with_reducible apply does_call_flat); exact rfl; exact rfl; exact (e1); exact rfl) | ((with_reducible apply does_call_flat); exact rfl; exact rfl; exact (r1); exact rfl) | ((with_reducible apply does_call_flat); exact rfl; exact rfl; exact (t1); exact rfl) | (exact does_invoke rfl hi hdd rfl hp) | ((with_reducible apply does_move); (conv => lhs; whnf)) | ((with_reducible apply does_assign); (conv => lhs; whnf)) | ((with_reducible apply does_load_row); exact tyOk rfl; exact rfl; exact rfl; exact rfl; exact Nat.le_of_ble_eq_true rfl; exact rfl) | ((with_reducible apply does_ne); exact rfl; exact rfl) | ((with_reducible apply does_extract); exact rfl; exact rfl) | ((with_reducible apply does_zeroS); exact tyOk rfl; exact rfl; exact rfl)) | ((with_reducible apply rp1); first | ((with_reducible apply does_box_ag); exact rfl; exact rfl) | ((with_reducible apply does_alloc); exact tyOk rfl; exact rfl)) | ((with_reducible apply rpN); ((with_reducible apply does_store_whole); exact tyOk rfl; exact rfl; exact rfl; exact rfl; exact rfl; exact rfl)) | ((with_reducible apply aw_cond); exact rfl; (focus (intro hd; (first | (cases hd; done) | (exfalso; simp at hd; omega)))); (intro hd; clear hd)) | ((with_reducible apply aw_cond); exact rfl; rotate_left; (focus (intro hd; (first | (cases hd; done) | (exfalso; simp at hd; omega)))); (intro hd; clear hd)))
    (with_reducible apply ret_ok); (focus (repeat' (first | (with_reducible apply rv_nil) | (with_reducible apply rv_cons) | ((with_reducible apply rv_tmp); exact rfl) | ((with_reducible apply rv_rowd); exact rfl; exact rfl; exact tyOk rfl; exact rfl; exact rfl)))); exact rfl; refine SubD.of_eq ?_
    rfl
end Go.Proofs.YtpaccaojgbfjdaaDoor

