/-
  value.Check, both, order, Compare as contracts: what they tell of any value. No condition but the sizes.
-/
import Derived.Test.YtlpnnnmdkglkcaaDoorZValid
import Derived.Test.YtlpnnnmdkglkcaaDoorZUtf
import Derived.Test.YtlpnnnmdkglkcaaDoorZFltL
import Derived.Test.YtlpnnnmdkglkcaaDoorZC
import Derived.Test.YtlpnnnmdkglkcaaDoorZB
namespace Go.Proofs.YtlpnnnmdkglkcaaDoor
set_option linter.unusedSimpArgs false
set_option linter.unusedVariables false
open Go.RowKit

/-- A value. -/
structure Vl where
  k : Int
  n : Int
  b : Nat
  t : ByteArray
abbrev qD (b : Nat) : D := .sc (.int .u64 (b : Int))
def Vl.cs (v : Vl) : List D := [iD v.k, iD v.n, qD v.b, strD v.t]
theorem ext_from : ExtF Tryd.prog 60 Extern.MathFloatBits.float64frombits := ⟨_, Tryd.func60, by kernel_rfl, rfl, by kernel_rfl, by kernel_rfl⟩
theorem ext_bits : ExtF Tryd.prog 87 Extern.MathFloatBits.float64bits := ⟨_, Tryd.func87, by kernel_rfl, rfl, by kernel_rfl, by kernel_rfl⟩
section
variable {dst : Option Nat} {ty : TypeId} {e : Operand → A} {β : Bx}
theorem does_from {b : Nat} {x z : Operand} {ts : Array TypeId} (hx : e x = .fn (.func 60) [] []) (hz : e z = .d (qD b)) : Does Tryd.prog dst (.call { callee := .value x, args := #[z], argTypes := ts }) ty e β (.d (fltD b)) [] [] :=
  does_ext1 (v := .float .f64 b) ext_from hx hz (fun w => rfl) rfl
theorem does_bits {b : Nat} {x z : Operand} {ts : Array TypeId} (hx : e x = .fn (.func 87) [] []) (hz : e z = .d (fltD b)) : Does Tryd.prog dst (.call { callee := .value x, args := #[z], argTypes := ts }) ty e β (.d (qD b)) [] [] :=
  does_ext1 (v := .int .u64 (b : Int)) ext_bits hx hz (fun w => rfl) rfl
end
def sgnB (b : Nat) : Bool := decide (IntKind.i64.wrap (b : Int) < 0)
theorem signbit_pc (b : Nat) : PC Tryd.prog 61 [fltD b] (bD (sgnB b)) := by
  refine pc_of_aw Tryd.func61 rfl (by kernel_rfl) mixed (by kernel_rfl) (by rw [Tryd.ntmps61]; exact Nat.le_of_ble_eq_true rfl) Tryd.results61 ?_
  repeat (first | (with_reducible first | apply aw_seq | apply aw_reg | apply rp_nil | apply ae_norm | apply aw_ret | apply re_ret) | ((with_reducible apply rp); first | (exact does_bits rfl rfl) | (exact does_conv_int (tyOk rfl) (tyOk rfl) rfl rfl) | ((with_reducible apply does_move); (conv => lhs; whnf)) | ((with_reducible apply does_assign); (conv => lhs; whnf)) | ((with_reducible apply does_lt); exact rfl; exact rfl)))
  (with_reducible apply ret_ok); (focus (repeat' (first | (with_reducible apply rv_nil) | (with_reducible apply rv_cons) | ((with_reducible apply rv_tmp); exact rfl)))); exact rfl; refine SubD.of_eq ?_
  rfl
def Vl.b1 (v : Vl) : Bool := decide (v.k < 0) || decide (v.k > 4)
def Vl.b2 (v : Vl) : Bool := decide ((v.t.size : Int) > 40)
def Vl.b3 (v : Vl) : Bool := ((v.k != 4 && !(v.t.toList == (⟨#[]⟩ : ByteArray).toList)) || (v.k != 3 && (v.b : Int) != 0)) || ((v.k != 2 && v.k != 1) && v.n != 0)
def Vl.b4 (v : Vl) : Bool := v.n != 0 && v.n != 1
def Vl.b5 (v : Vl) : Bool := fltV .neq v.b v.b || (fltV .eql v.b 0 && sgnB v.b)
def Vl.b6 (v : Vl) : Bool := !(Lib.validD v.t.data.toList)
/-- What Check tells. -/
def chkV (v : Vl) : Nat := if v.b1 = true then 2 else if v.b2 = true then 1 else if v.b3 = true then 3 else if (v.k == 1) = true then (if v.b4 = true then 3 else 0) else if (v.k == 3) = true then (if v.b5 = true then 3 else 0) else if (v.k == 4) = true then (if v.b6 = true then 3 else 0) else 0
set_option maxHeartbeats 2000000 in
theorem check_pc (v : Vl) (ht : v.t.size ≤ 9223372036854775807) : PC Tryd.prog 37 [.ag v.cs] (iD (chkV v)) := by
  have s1 := signbit_pc v.b
  have u1 := valid_pc v.t ht
  refine pc_of_aw Tryd.func37 rfl (by kernel_rfl) mixed (by kernel_rfl) (by rw [Tryd.ntmps37]; exact Nat.le_of_ble_eq_true rfl) Tryd.results37 ?_
  repeat (first | (with_reducible first | apply aw_seq | apply aw_reg | apply rp_nil | apply ae_norm) | ((first | (with_reducible apply rp) | ((with_reducible apply rpG); exact rfl; exact gval_f rfl; (focus repeat' (first | exact trivial | exact fun h => h | refine And.intro ?_ ?_)); intro hgd; have hgd0 := hgd; (try simp only [decide_eq_true_eq, Bool.and_eq_true, Bool.not_eq_true', beq_iff_eq] at hgd))); first | ((with_reducible apply does_move); (conv => lhs; whnf)) | ((with_reducible apply does_assign); (conv => lhs; whnf)) | ((with_reducible apply does_or); exact rfl; exact rfl; exact rfl; exact fun h => h) | ((with_reducible apply does_fieldAddr); exact tyOk rfl; exact rfl; exact rfl; decide; exact rfl) | ((with_reducible apply does_load_var); exact tyOk rfl; exact rfl; exact rfl; exact rfl; exact rfl) | ((with_reducible apply does_lt); exact rfl; exact rfl) | ((with_reducible apply does_gt); exact rfl; exact rfl)) | ((with_reducible apply rp1); ((with_reducible apply does_box_ag); exact rfl; exact rfl)))
  refine aw_cond rfl (fun h1 => ?_) (fun h1 => ?_)
  · have e : chkV v = 2 := by unfold chkV; rw [if_pos (show v.b1 = true from h1)]
    rw [e]
    repeat (first | (with_reducible first | apply aw_seq | apply aw_reg | apply rp_nil | apply ae_norm | apply aw_ret | apply ae_ret | apply re_ret) | ((with_reducible apply rp); ((with_reducible apply does_assign); (conv => lhs; whnf))))
    (with_reducible apply ret_ok); (focus (repeat' (first | (with_reducible apply rv_nil) | (with_reducible apply rv_cons) | ((with_reducible apply rv_tmp); exact rfl)))); exact rfl; refine SubD.of_eq ?_
    rfl
  have h1 : v.b1 = false := h1
  repeat (first | (with_reducible first | apply aw_seq | apply aw_reg | apply rp_nil | apply ae_norm | apply aw_skip) | ((with_reducible apply rp); first | ((with_reducible apply does_fieldAddr); exact tyOk rfl; exact rfl; exact rfl; decide; exact rfl) | ((with_reducible apply does_load_var); exact tyOk rfl; exact rfl; exact rfl; exact rfl; exact rfl) | ((with_reducible apply does_gt); exact rfl; exact rfl) | ((with_reducible apply does_len_str); exact tyOk rfl; exact rfl; exact rfl)))
  refine aw_cond rfl (fun h2 => ?_) (fun h2 => ?_)
  · have e : chkV v = 1 := by unfold chkV; rw [if_neg (by rw [h1]; decide), if_pos (show v.b2 = true from h2)]
    rw [e]
    repeat (first | (with_reducible first | apply aw_seq | apply aw_reg | apply rp_nil | apply ae_norm | apply aw_ret | apply ae_ret | apply re_ret) | ((with_reducible apply rp); ((with_reducible apply does_assign); (conv => lhs; whnf))))
    (with_reducible apply ret_ok); (focus (repeat' (first | (with_reducible apply rv_nil) | (with_reducible apply rv_cons) | ((with_reducible apply rv_tmp); exact rfl)))); exact rfl; refine SubD.of_eq ?_
    rfl
  have h2 : v.b2 = false := h2
  repeat (first | (with_reducible first | apply aw_seq | apply aw_reg | apply rp_nil | apply ae_norm | apply aw_skip) | ((first | (with_reducible apply rp) | ((with_reducible apply rpG); exact rfl; (first | exact gval_t rfl | exact gval_f rfl | exact gval_gt rfl); (focus repeat' (first | exact trivial | exact fun h => h | refine And.intro ?_ ?_ | (intro h; simp_all))); intro hgd; have hgd0 := hgd; (try simp only [decide_eq_true_eq, Bool.and_eq_true, Bool.not_eq_true', beq_iff_eq] at hgd))); first | ((with_reducible apply does_move); (conv => lhs; whnf)) | ((with_reducible apply does_and); exact rfl; exact rfl; exact rfl; (first | exact fun h => h | (intro h; (rw [hgd0, h]; rfl)))) | ((with_reducible apply does_or); exact rfl; exact rfl; exact rfl; (first | exact fun h => h | (intro h; (rw [hgd0, h]; rfl)))) | ((with_reducible apply does_fieldAddr); exact tyOk rfl; exact rfl; exact rfl; decide; exact rfl) | ((with_reducible apply does_load_var); exact tyOk rfl; exact rfl; exact rfl; exact rfl; exact rfl) | ((with_reducible apply does_ne); exact rfl; exact rfl) | ((with_reducible apply does_sne); exact rfl; exact rfl)) | ((first | (with_reducible apply rpGP) | (with_reducible apply drGP)); exact rfl; (first | exact gval_t rfl | exact gval_f rfl | exact gval_gt rfl); (focus repeat' (first | exact trivial | exact fun h => h | refine And.intro ?_ ?_ | (intro h; simp_all))); (intro hgd; have hgd0 := hgd; (try simp only [decide_eq_true_eq, Bool.and_eq_true, Bool.not_eq_true', beq_iff_eq] at hgd); first | ((with_reducible apply does_or); exact rfl; exact rfl; exact rfl; (first | exact fun h => h | (intro h; (rw [hgd0, h]; rfl)))) | ((with_reducible apply does_and); exact rfl; exact rfl; exact rfl; (first | exact fun h => h | (intro h; (rw [hgd0, h]; rfl)))))))
  refine aw_cond rfl (fun h3 => ?_) (fun h3 => ?_)
  · have e : chkV v = 3 := by unfold chkV; rw [if_neg (by rw [h1]; decide), if_neg (by rw [h2]; decide), if_pos (show v.b3 = true from h3)]
    rw [e]
    repeat (first | (with_reducible first | apply aw_seq | apply aw_reg | apply rp_nil | apply ae_norm | apply aw_ret | apply ae_ret | apply re_ret) | ((with_reducible apply rp); ((with_reducible apply does_assign); (conv => lhs; whnf))))
    (with_reducible apply ret_ok); (focus (repeat' (first | (with_reducible apply rv_nil) | (with_reducible apply rv_cons) | ((with_reducible apply rv_tmp); exact rfl)))); exact rfl; refine SubD.of_eq ?_
    rfl
  have h3 : v.b3 = false := h3
  have e0 : chkV v = if (v.k == 1) = true then (if v.b4 = true then 3 else 0) else if (v.k == 3) = true then (if v.b5 = true then 3 else 0) else if (v.k == 4) = true then (if v.b6 = true then 3 else 0) else 0 := by
    unfold chkV
    rw [if_neg (by rw [h1]; decide), if_neg (by rw [h2]; decide), if_neg (by rw [h3]; decide)]
  rw [e0]
  clear e0 h1 h2 h3
  repeat (first | (with_reducible first | apply aw_seq | apply aw_reg | apply rp_nil | apply ae_norm | apply aw_block | apply aw_skip) | ((with_reducible apply rp); first | ((with_reducible apply does_assign); (conv => lhs; whnf)) | ((with_reducible apply does_fieldAddr); exact tyOk rfl; exact rfl; exact rfl; decide; exact rfl) | ((with_reducible apply does_load_var); exact tyOk rfl; exact rfl; exact rfl; exact rfl; exact rfl) | ((with_reducible apply does_eq); exact rfl; exact rfl)))
  refine aw_cond rfl (fun k1 => ?_) (fun k1 => ?_)
  · rw [if_pos k1]
    repeat (first | (with_reducible first | apply aw_seq | apply aw_reg | apply rp_nil | apply ae_norm) | ((first | (with_reducible apply rp) | ((with_reducible apply rpG); exact rfl; exact gval_t rfl; (focus repeat' (first | exact trivial | exact fun h => h | refine And.intro ?_ ?_)); intro hgd; have hgd0 := hgd; (try simp only [decide_eq_true_eq, Bool.and_eq_true, Bool.not_eq_true', beq_iff_eq] at hgd))); first | ((with_reducible apply does_move); (conv => lhs; whnf)) | ((with_reducible apply does_and); exact rfl; exact rfl; exact rfl; exact fun h => h) | ((with_reducible apply does_fieldAddr); exact tyOk rfl; exact rfl; exact rfl; decide; exact rfl) | ((with_reducible apply does_load_var); exact tyOk rfl; exact rfl; exact rfl; exact rfl; exact rfl) | ((with_reducible apply does_ne); exact rfl; exact rfl)))
    refine aw_cond rfl (fun h4 => ?_) (fun h4 => ?_)
    · rw [if_pos (show v.b4 = true from h4)]
      repeat (first | (with_reducible first | apply aw_seq | apply aw_reg | apply rp_nil | apply ae_norm | apply aw_ret | apply ae_ret | apply be_ret | apply re_ret) | ((with_reducible apply rp); ((with_reducible apply does_assign); (conv => lhs; whnf))))
      (with_reducible apply ret_ok); (focus (repeat' (first | (with_reducible apply rv_nil) | (with_reducible apply rv_cons) | ((with_reducible apply rv_tmp); exact rfl)))); exact rfl; refine SubD.of_eq ?_
      rfl
    · rw [if_neg (show ¬ v.b4 = true from fun h => absurd (h.symm.trans h4) (by decide))]
      repeat (first | (with_reducible first | apply aw_seq | apply aw_reg | apply rp_nil | apply ae_norm | apply be_norm | apply aw_ret | apply re_ret | apply aw_skip) | ((with_reducible apply rp); ((with_reducible apply does_assign); (conv => lhs; whnf))))
      (with_reducible apply ret_ok); (focus (repeat' (first | (with_reducible apply rv_nil) | (with_reducible apply rv_cons) | ((with_reducible apply rv_tmp); exact rfl)))); exact rfl; refine SubD.of_eq ?_
      rfl
  rw [if_neg (by rw [k1]; decide)]
  repeat (first | (with_reducible first | apply aw_seq | apply aw_reg | apply rp_nil | apply ae_norm) | ((with_reducible apply rp); first | ((with_reducible apply does_assign); (conv => lhs; whnf)) | ((with_reducible apply does_eq); exact rfl; exact rfl)))
  refine aw_cond rfl (fun k3 => ?_) (fun k3 => ?_)
  · rw [if_pos k3]
    repeat (first | (with_reducible first | apply aw_seq | apply aw_reg | apply rp_nil | apply ae_norm) | ((first | (with_reducible apply rp) | ((with_reducible apply rpG); exact rfl; (first | exact gval_f rfl | exact gval_gt rfl); (focus repeat' (first | exact trivial | exact fun h => h | refine And.intro ?_ ?_ | (intro h; simp_all))); intro hgd; have hgd0 := hgd; (try simp only [decide_eq_true_eq, Bool.and_eq_true, Bool.not_eq_true', beq_iff_eq] at hgd))); first | (exact does_from rfl rfl) | (exact does_flt rfl rfl (.inr (.inr (.inr rfl)))) | (exact does_flt (b := 0) rfl rfl (.inr (.inr (.inl rfl)))) | ((with_reducible apply does_call_flat); exact rfl; exact rfl; exact (s1); exact rfl) | ((with_reducible apply does_move); (conv => lhs; whnf)) | ((with_reducible apply does_assign); (conv => lhs; whnf)) | ((with_reducible apply does_and); exact rfl; exact rfl; exact rfl; (first | exact fun h => h | (intro h; (rw [hgd0, h]; rfl)))) | ((with_reducible apply does_or); exact rfl; exact rfl; exact rfl; (first | exact fun h => h | (intro h; (rw [hgd0, h]; rfl)))) | ((with_reducible apply does_fieldAddr); exact tyOk rfl; exact rfl; exact rfl; decide; exact rfl) | ((with_reducible apply does_load_var); exact tyOk rfl; exact rfl; exact rfl; exact rfl; exact rfl)) | ((first | (with_reducible apply rpGP) | (with_reducible apply drGP)); exact rfl; (first | exact gval_f rfl | exact gval_gt rfl); (focus repeat' (first | exact trivial | exact fun h => h | refine And.intro ?_ ?_ | (intro h; simp_all))); (intro hgd; have hgd0 := hgd; (try simp only [decide_eq_true_eq, Bool.and_eq_true, Bool.not_eq_true', beq_iff_eq] at hgd); first | ((with_reducible apply does_or); exact rfl; exact rfl; exact rfl; (first | exact fun h => h | (intro h; (rw [hgd0, h]; rfl)))) | ((with_reducible apply does_and); exact rfl; exact rfl; exact rfl; (first | exact fun h => h | (intro h; (rw [hgd0, h]; rfl)))))))
    refine aw_cond rfl (fun h4 => ?_) (fun h4 => ?_)
    · rw [if_pos (show v.b5 = true from h4)]
      repeat (first | (with_reducible first | apply aw_seq | apply aw_reg | apply rp_nil | apply ae_norm | apply aw_ret | apply ae_ret | apply be_ret | apply re_ret) | ((with_reducible apply rp); ((with_reducible apply does_assign); (conv => lhs; whnf))))
      (with_reducible apply ret_ok); (focus (repeat' (first | (with_reducible apply rv_nil) | (with_reducible apply rv_cons) | ((with_reducible apply rv_tmp); exact rfl)))); exact rfl; refine SubD.of_eq ?_
      rfl
    · rw [if_neg (show ¬ v.b5 = true from fun h => absurd (h.symm.trans h4) (by decide))]
      repeat (first | (with_reducible first | apply aw_seq | apply aw_reg | apply rp_nil | apply ae_norm | apply be_norm | apply aw_ret | apply re_ret | apply aw_skip) | ((with_reducible apply rp); ((with_reducible apply does_assign); (conv => lhs; whnf))))
      (with_reducible apply ret_ok); (focus (repeat' (first | (with_reducible apply rv_nil) | (with_reducible apply rv_cons) | ((with_reducible apply rv_tmp); exact rfl)))); exact rfl; refine SubD.of_eq ?_
      rfl
  rw [if_neg (by rw [k3]; decide)]
  repeat (first | (with_reducible first | apply aw_seq | apply aw_reg | apply rp_nil | apply ae_norm) | ((with_reducible apply rp); first | ((with_reducible apply does_assign); (conv => lhs; whnf)) | ((with_reducible apply does_eq); exact rfl; exact rfl)))
  refine aw_cond rfl (fun k4 => ?_) (fun k4 => ?_)
  · rw [if_pos k4]
    repeat (first | (with_reducible first | apply aw_seq | apply aw_reg | apply rp_nil | apply ae_norm) | ((with_reducible apply rp); first | ((with_reducible apply does_call_flat); exact rfl; exact rfl; exact (u1); exact rfl) | ((with_reducible apply does_fieldAddr); exact tyOk rfl; exact rfl; exact rfl; decide; exact rfl) | ((with_reducible apply does_load_var); exact tyOk rfl; exact rfl; exact rfl; exact rfl; exact rfl) | ((with_reducible apply does_not); exact rfl)))
    refine aw_cond rfl (fun h4 => ?_) (fun h4 => ?_)
    · rw [if_pos (show v.b6 = true from h4)]
      repeat (first | (with_reducible first | apply aw_seq | apply aw_reg | apply rp_nil | apply ae_norm | apply aw_ret | apply ae_ret | apply be_ret | apply re_ret) | ((with_reducible apply rp); ((with_reducible apply does_assign); (conv => lhs; whnf))))
      (with_reducible apply ret_ok); (focus (repeat' (first | (with_reducible apply rv_nil) | (with_reducible apply rv_cons) | ((with_reducible apply rv_tmp); exact rfl)))); exact rfl; refine SubD.of_eq ?_
      rfl
    · rw [if_neg (show ¬ v.b6 = true from fun h => absurd (h.symm.trans h4) (by decide))]
      repeat (first | (with_reducible first | apply aw_seq | apply aw_reg | apply rp_nil | apply ae_norm | apply be_norm | apply aw_ret | apply re_ret | apply aw_skip) | ((with_reducible apply rp); ((with_reducible apply does_assign); (conv => lhs; whnf))))
      (with_reducible apply ret_ok); (focus (repeat' (first | (with_reducible apply rv_nil) | (with_reducible apply rv_cons) | ((with_reducible apply rv_tmp); exact rfl)))); exact rfl; refine SubD.of_eq ?_
      rfl
  rw [if_neg (by rw [k4]; decide)]
  repeat (first | (with_reducible first | apply aw_seq | apply aw_reg | apply rp_nil | apply ae_norm | apply be_norm | apply aw_ret | apply re_ret | apply aw_skip) | ((with_reducible apply rp); ((with_reducible apply does_assign); (conv => lhs; whnf))))
  (with_reducible apply ret_ok); (focus (repeat' (first | (with_reducible apply rv_nil) | (with_reducible apply rv_cons) | ((with_reducible apply rv_tmp); exact rfl)))); exact rfl; refine SubD.of_eq ?_
  rfl
end Go.Proofs.YtlpnnnmdkglkcaaDoor

