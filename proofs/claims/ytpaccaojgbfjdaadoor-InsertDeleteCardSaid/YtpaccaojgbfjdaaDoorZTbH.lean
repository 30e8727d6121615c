/-
  chirograph/table: none, Condition, Holds as contracts. No condition but that the expression, the columns and the row may be.
-/
import Derived.Test.YtpaccaojgbfjdaaDoorZEv5
import Derived.Test.YtpaccaojgbfjdaaDoorZTbF
namespace Go.Proofs.YtpaccaojgbfjdaaDoor
set_option linter.unusedSimpArgs false
set_option linter.unusedVariables false
open Go.RowKit

section
variable {P : Program} {dst : Option Nat} {ty : TypeId} {e : Operand → A} {β : Bx} {T T' : TypeId} {x y : Operand} {k : IntKind} {m n : Int} {b : Bool}
theorem does_eq_b (hd : (m == n) = b) (hx : e x = .d (.sc (.int k m))) (hy : e y = .d (.sc (.int k n))) : Does P dst (.binOp .eql T x y T') ty e β (.d (bD b)) [] [] := by
  subst hd; exact does_eq hx hy
theorem does_ne_b (hd : (m != n) = b) (hx : e x = .d (.sc (.int k m))) (hy : e y = .d (.sc (.int k n))) : Does P dst (.binOp .neq T x y T') ty e β (.d (bD b)) [] [] := by
  subst hd; exact does_ne hx hy
end
theorem Ex.op_pos {x : Ex} (h : x.ok) : 1 ≤ x.op := by
  cases x with
  | lit v => exact Nat.le_refl _
  | col n => show 1 ≤ 2; omega
  | un op a => have := h.1; unfold un1 at this; show 1 ≤ op; omega
  | bi op a b => have := h.1; unfold bi2 at this; show 1 ≤ op; omega
set_option maxHeartbeats 1000000 in
theorem none_e (x : Ex) (h : x.ok) : PC Tryd.prog 54 [.ag x.cs] (bD false) := by
  have h0 : ((x.op : Int) == 0) = false := beq_eq_false_iff_ne.2 (by have := Ex.op_pos h; omega)
  have hxl := x.cs_eq
  generalize x.cs = c at *
  subst hxl
  refine pc_of_aw Tryd.func54 rfl (by kernel_rfl) mixed (by kernel_rfl) (by rw [Tryd.ntmps54]; exact Nat.le_of_ble_eq_true rfl) Tryd.results54 ?_
  repeat (first | (with_reducible first | apply aw_seq | apply aw_reg | apply rp_nil | apply ae_norm | apply aw_ret | apply re_ret) | ((first | (with_reducible apply rp) | ((with_reducible apply rpG); exact rfl; exact gval_t rfl; (focus repeat' (first | exact trivial | exact fun h => h | refine And.intro ?_ ?_)); intro hgd; have hgd0 := hgd; (try simp only [decide_eq_true_eq, Bool.and_eq_true, Bool.not_eq_true', beq_iff_eq] at hgd))); first | (exact does_eq_b h0 rfl rfl) | ((with_reducible apply does_move); (conv => lhs; whnf)) | ((with_reducible apply does_assign); (conv => lhs; whnf)) | ((with_reducible apply does_and); exact rfl; exact rfl; exact rfl; exact fun h => h) | ((with_reducible apply does_fieldAddr); exact tyOk rfl; exact rfl; exact rfl; decide; exact rfl) | ((with_reducible apply does_load_var); exact tyOk rfl; exact rfl; exact rfl; exact rfl; exact rfl) | ((with_reducible apply does_load_row); exact tyOk rfl; exact rfl; exact rfl; exact rfl; exact Nat.le_of_ble_eq_true rfl; exact rfl) | ((with_reducible apply does_eq); exact rfl; exact rfl) | ((with_reducible apply does_seq); exact rfl; exact rfl) | ((with_reducible apply does_eqS); exact rfl; exact rfl; exact tgOk rfl; exact rfl) | ((with_reducible apply does_len_map); exact tyOk rfl; exact rfl; exact rfl) | ((with_reducible apply does_zeroS); exact tyOk rfl; exact rfl; exact rfl)) | ((with_reducible apply rp1); ((with_reducible apply does_box_ag); exact rfl; exact rfl)))
  (with_reducible apply ret_ok); (focus (repeat' (first | (with_reducible apply rv_nil) | (with_reducible apply rv_cons) | ((with_reducible apply rv_tmp); exact rfl)))); exact rfl; refine SubD.of_eq ?_
  rfl
set_option maxHeartbeats 1000000 in
theorem cond_pc (cols : List Cl) (hc : ColsOk cols) (x : Ex) (hok : x.ok) (hd : x.deep ≤ 7) (hn : x.num ≤ 40) (hk : Kd (ofF cols x) 1) : PC Tryd.prog 53 [.ag x.cs, colsD cols] (iD 0) := by
  have n1 := none_e x hok
  have k1 := kOf_pc cols hc x hok hd hn hk.1
  have hxl := x.cs_eq
  have h2 := hk.2
  generalize (ofF cols x).k = kk at *
  generalize x.cs = c at *
  subst hxl
  rcases h2 with rfl | rfl
  · refine pc_of_aw Tryd.func53 rfl (by kernel_rfl) mixed (by kernel_rfl) (by rw [Tryd.ntmps53]; exact Nat.le_of_ble_eq_true rfl) Tryd.results53 ?_
    repeat (first | (with_reducible first | apply aw_seq | apply aw_reg | apply rp_nil | apply ae_norm | apply aw_ret | apply re_ret | apply aw_skip) | ((first | (with_reducible apply rp) | ((with_reducible apply rpG); exact rfl; exact gval_t rfl; (focus repeat' (first | exact trivial | exact fun h => h | refine And.intro ?_ ?_)); intro hgd; have hgd0 := hgd; (try simp only [decide_eq_true_eq, Bool.and_eq_true, Bool.not_eq_true', beq_iff_eq] at hgd))); first | ((with_reducible apply does_call_flat); exact rfl; exact rfl; exact (n1); exact rfl) | ((with_reducible apply does_call_flat); exact rfl; exact rfl; exact (k1); exact rfl) | ((with_reducible apply does_move); (conv => lhs; whnf)) | ((with_reducible apply does_assign); (conv => lhs; whnf)) | ((with_reducible apply does_and); exact rfl; exact rfl; exact rfl; exact fun h => h) | ((with_reducible apply does_load_row); exact tyOk rfl; exact rfl; exact rfl; exact rfl; exact Nat.le_of_ble_eq_true rfl; exact rfl) | ((with_reducible apply does_eq); exact rfl; exact rfl) | ((with_reducible apply does_ne); exact rfl; exact rfl) | ((with_reducible apply does_extract); exact rfl; exact rfl)) | ((with_reducible apply rp1); ((with_reducible apply does_box_ag); exact rfl; exact rfl)) | ((with_reducible apply aw_cond); exact rfl; (focus (intro hd; (cases hd; done))); (intro hd; clear hd)))
    (with_reducible apply ret_ok); (focus (repeat' (first | (with_reducible apply rv_nil) | (with_reducible apply rv_cons) | ((with_reducible apply rv_tmp); exact rfl)))); exact rfl; refine SubD.of_eq ?_
    rfl
  · refine pc_of_aw Tryd.func53 rfl (by kernel_rfl) mixed (by kernel_rfl) (by rw [Tryd.ntmps53]; exact Nat.le_of_ble_eq_true rfl) Tryd.results53 ?_
    repeat (first | (with_reducible first | apply aw_seq | apply aw_reg | apply rp_nil | apply ae_norm | apply aw_ret | apply re_ret | apply aw_skip) | ((first | (with_reducible apply rp) | ((with_reducible apply rpG); exact rfl; exact gval_t rfl; (focus repeat' (first | exact trivial | exact fun h => h | refine And.intro ?_ ?_)); intro hgd; have hgd0 := hgd; (try simp only [decide_eq_true_eq, Bool.and_eq_true, Bool.not_eq_true', beq_iff_eq] at hgd))); first | ((with_reducible apply does_call_flat); exact rfl; exact rfl; exact (n1); exact rfl) | ((with_reducible apply does_call_flat); exact rfl; exact rfl; exact (k1); exact rfl) | ((with_reducible apply does_move); (conv => lhs; whnf)) | ((with_reducible apply does_assign); (conv => lhs; whnf)) | ((with_reducible apply does_and); exact rfl; exact rfl; exact rfl; exact fun h => h) | ((with_reducible apply does_load_row); exact tyOk rfl; exact rfl; exact rfl; exact rfl; exact Nat.le_of_ble_eq_true rfl; exact rfl) | ((with_reducible apply does_eq); exact rfl; exact rfl) | ((with_reducible apply does_ne); exact rfl; exact rfl) | ((with_reducible apply does_extract); exact rfl; exact rfl)) | ((with_reducible apply rp1); ((with_reducible apply does_box_ag); exact rfl; exact rfl)) | ((with_reducible apply aw_cond); exact rfl; (focus (intro hd; (cases hd; done))); (intro hd; clear hd)))
    (with_reducible apply ret_ok); (focus (repeat' (first | (with_reducible apply rv_nil) | (with_reducible apply rv_cons) | ((with_reducible apply rv_tmp); exact rfl)))); exact rfl; refine SubD.of_eq ?_
    rfl
/-- Is a condition true of a row? What is wrong? -/
def holF (cols : List Cl) (row : List Vl) (x : Ex) : Bool := (evF cols row x).e == 0 && (evF cols row x).v.n == 1
set_option maxHeartbeats 1000000 in
theorem holds_pc (cols : List Cl) (hc : ColsOk cols) (x : Ex) (hok : x.ok) (hd : x.deep ≤ 7) (hn : x.num ≤ 40) (hk : Kd (ofF cols x) 1) (row : List Vl) (hr : FitR row cols) : PC Tryd.prog 28 [.ag x.cs, colsD cols, valsD row] (.tu [bD (holF cols row x), iD (evF cols row x).e]) := by
  have n1 := none_e x hok
  have c1 := cond_pc cols hc x hok hd hn hk
  have r1 := kRow_pc row cols hc hr
  have e1 := eval_pc cols hc row hr x hok hd hn
  have hxl := x.cs_eq
  unfold holF
  generalize evF cols row x = t at *
  obtain ⟨⟨vk, vn, vb, vt⟩, te⟩ := t
  dsimp only at *
  generalize x.cs = c at *
  subst hxl
  by_cases h0 : te = 0
  · subst h0
    rw [if_pos rfl] at e1
    refine pc_of_aw Tryd.func28 rfl (by kernel_rfl) mixed (by kernel_rfl) (by rw [Tryd.ntmps28]; exact Nat.le_of_ble_eq_true rfl) Tryd.results28 ?_
    repeat (first | (with_reducible first | apply aw_seq | apply aw_reg | apply rp_nil | apply ae_norm | apply aw_ret | apply re_ret | apply aw_skip) | ((with_reducible apply rp); first | ((with_reducible apply does_call_flat); exact rfl; exact rfl; exact (n1); exact rfl) | ((with_reducible apply does_call_flat); exact rfl; exact rfl; exact (c1); exact rfl) | ((with_reducible apply does_call_flat); exact rfl; exact rfl; exact (r1); exact rfl) | ((with_reducible apply does_call_flat); exact rfl; exact rfl; exact (e1); exact rfl) | ((with_reducible apply does_move); (conv => lhs; whnf)) | ((with_reducible apply does_assign); (conv => lhs; whnf)) | ((with_reducible apply does_fieldAddr); exact tyOk rfl; exact rfl; exact rfl; decide; exact rfl) | ((with_reducible apply does_load_var); exact tyOk rfl; exact rfl; exact rfl; exact rfl; exact rfl) | ((with_reducible apply does_load_row); exact tyOk rfl; exact rfl; exact rfl; exact rfl; exact Nat.le_of_ble_eq_true rfl; exact rfl) | ((with_reducible apply does_eq); exact rfl; exact rfl) | ((with_reducible apply does_ne); exact rfl; exact rfl) | ((with_reducible apply does_extract); exact rfl; exact rfl)) | ((with_reducible apply rp1); first | ((with_reducible apply does_box_ag); exact rfl; exact rfl) | ((with_reducible apply does_alloc); exact tyOk rfl; exact rfl)) | ((with_reducible apply rpN); ((with_reducible apply does_store_whole); exact tyOk rfl; exact rfl; exact rfl; exact rfl; exact rfl; exact rfl)) | ((with_reducible apply aw_cond); exact rfl; (focus (intro hd; (cases hd; done))); (intro hd; clear hd)))
    (with_reducible apply ret_ok); (focus (repeat' (first | (with_reducible apply rv_nil) | (with_reducible apply rv_cons) | ((with_reducible apply rv_tmp); exact rfl)))); exact rfl; refine SubD.of_eq ?_
    rfl
  · rw [if_neg h0] at e1
    rw [beq_eq_false_iff_ne.2 h0, Bool.false_and]
    refine pc_of_aw Tryd.func28 rfl (by kernel_rfl) mixed (by kernel_rfl) (by rw [Tryd.ntmps28]; exact Nat.le_of_ble_eq_true rfl) Tryd.results28 ?_
    repeat (first | (with_reducible first | apply aw_seq | apply aw_reg | apply rp_nil | apply ae_norm | apply aw_ret | apply re_ret | apply aw_skip) | ((with_reducible apply rp); first | ((with_reducible apply does_call_flat); exact rfl; exact rfl; exact (n1); exact rfl) | ((with_reducible apply does_call_flat); exact rfl; exact rfl; exact (c1); exact rfl) | ((with_reducible apply does_call_flat); exact rfl; exact rfl; exact (r1); exact rfl) | ((with_reducible apply does_call_flat); exact rfl; exact rfl; exact (e1); exact rfl) | ((with_reducible apply does_move); (conv => lhs; whnf)) | ((with_reducible apply does_assign); (conv => lhs; whnf)) | ((with_reducible apply does_fieldAddr); exact tyOk rfl; exact rfl; exact rfl; decide; exact rfl) | ((with_reducible apply does_load_var); exact tyOk rfl; exact rfl; exact rfl; exact rfl; exact rfl) | ((with_reducible apply does_load_row); exact tyOk rfl; exact rfl; exact rfl; exact rfl; exact Nat.le_of_ble_eq_true rfl; exact rfl) | ((with_reducible apply does_eq); exact rfl; exact rfl) | ((with_reducible apply does_ne); exact rfl; exact rfl) | ((with_reducible apply does_extract); exact rfl; exact rfl)) | ((with_reducible apply rp1); first | ((with_reducible apply does_box_ag); exact rfl; exact rfl) | ((with_reducible apply does_alloc); exact tyOk rfl; exact rfl)) | ((with_reducible apply rpN); ((with_reducible apply does_store_whole); exact tyOk rfl; exact rfl; exact rfl; exact rfl; exact rfl; exact rfl)) | ((with_reducible apply aw_cond); exact rfl; (focus (intro hd; (cases hd; done))); (intro hd; clear hd)))
    (with_reducible apply ret_ok); (focus (repeat' (first | (with_reducible apply rv_nil) | (with_reducible apply rv_cons) | ((with_reducible apply rv_tmp); exact rfl)))); exact rfl; refine SubD.of_eq ?_
    rfl
end Go.Proofs.YtpaccaojgbfjdaaDoor

