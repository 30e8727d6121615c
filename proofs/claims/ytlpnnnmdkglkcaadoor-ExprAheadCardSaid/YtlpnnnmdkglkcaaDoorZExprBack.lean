/-
  ExprBack: an expression is read as it was shown.
-/
import Derived.Test.YtlpnnnmdkglkcaaDoorZParseE
import Derived.Test.YtlpnnnmdkglkcaaDoorZShow
import Derived.Test.YtlpnnnmdkglkcaaDoorZExprOf
import Derived.Test.YtlpnnnmdkglkcaaDoorZJoinD
namespace Go.Proofs.YtlpnnnmdkglkcaaDoor
set_option linter.unusedSimpArgs false
set_option linter.unusedVariables false
open Go.RowKit

section
variable {P : Program} {dst : Option Nat} {ty : TypeId} {e : Operand → A} {β : Bx} {T T' : TypeId} {x y : Operand} {m n : Int} {b : Bool}
theorem does_gt_b (hd : decide (m > n) = b) (hx : e x = .d (iD m)) (hy : e y = .d (iD n)) : Does P dst (.binOp .gtr T x y T') ty e β (.d (bD b)) [] [] := by
  subst hd; exact does_gt hx hy
end
/-- What exprOf makes, as tokens. -/
theorem exprOf_toks (l : List Raw) (kind : Int) : ∃ (x : Ex) (n' : Nat), x.ok ∧ x.deep ≤ 7 ∧ x.num ≤ 15 ∧ n' ≤ 16 ∧ PG Tryd.prog 22 [.d (rawsD l), .d (iD kind)] [] [] (.tu [.d (exD x), .d (colsD (colsH l)), .px 2000 0]) []
    [(2000, .var 83 [.d (rawsD (l.take 40)), .d (iD n'), .d (colsD (colsH l))])] := by
  obtain ⟨x, n', hg, hn', g1⟩ := exprOf_pg l kind
  have hc : ColsOk (colsH l) := colsF_ok _
  have hdp := hg.deep
  have hnm : x.num + 1 ≤ 2 ^ 4 := hg.num
  rw [exD_eq] at g1
  exact ⟨x, n', hg.ok hc.name, by omega, by omega, hn', g1⟩
set_option maxHeartbeats 2000000 in
theorem exprBack_pc (l : List Raw) (kind : Int) : PC Tryd.prog 9 [rawsD l, iD kind] (bD true) := by
  obtain ⟨x, n', hx, hd, hn, hn', g1⟩ := exprOf_toks l kind
  have hl := shw_len x 1
  have h0 := shw_pos x 1
  have s1 := showE_pc x hx hd (by omega)
  have p1 := parse_pc (shw x 1) (by omega) (fun t ht => by rw [shw_one] at ht; exact shwB_toks x hx t ht) x (read_shown x hx) hx hd (by omega)
  have c1 := expr_check x hx hd (by omega)
  rw [exD_eq] at c1
  have m1 := sameE_pc x
  generalize shw x 1 = T at *
  generalize colsH l = cols at *
  have hgt : decide ((T.length : Int) > 0) = true := decide_eq_true (by omega)
  refine pc_of_aw Tryd.func9 rfl (by kernel_rfl) mixed (by kernel_rfl) (by rw [Tryd.ntmps9]; exact Nat.le_of_ble_eq_true rfl) Tryd.results9 ?_
  repeat (first | ((first | (with_reducible apply rpGT) | (with_reducible apply drGT) | (with_reducible apply rpGTN) | (with_reducible apply drGTN)); exact rfl; exact gval_t rfl; (first | exact rfl | assumption | decide); (focus repeat' (first | exact trivial | refine And.intro ?_ ?_)); (first | ((refine does_callG' [] [(2000, 16)] (ups := [(16, .var 83 [.d (rawsD (l.take 40)), .d (iD n'), .d (colsD cols)])]) (v := (.tu [.d (exD x), .d (colsD cols), .px 16 0])) rfl (g1) rfl ?_ rfl ?_ ?_ rfl rfl rfl rfl rfl ?_ ?_ rfl rfl rfl; (focus repeat' exact trivial); (focus repeat' (first | exact trivial | exact inB_px rfl | refine And.intro ?_ ?_)); (focus repeat' (first | exact trivial | exact inB_px rfl | refine And.intro ?_ ?_)); (focus repeat' (first | exact trivial | exact inB_px rfl | refine And.intro ?_ ?_)); (focus repeat' (first | exact trivial | exact inB_px rfl | refine And.intro ?_ ?_))); (first | exact lapp_nil _ | exact lapp_1 _ _ | exact lapp_2 _ _ _ | exact lapp_3 _ _ _ _)) | ((first | ((with_reducible apply does_call'); exact rfl; exact rfl; exact rfl; exact (s1)) | ((with_reducible apply does_call'); exact rfl; exact rfl; exact rfl; exact (p1)) | ((with_reducible apply does_call_flat); exact rfl; exact rfl; exact (c1); exact rfl) | ((with_reducible apply does_call_flat); exact rfl; exact rfl; exact (m1); exact rfl) | (exact does_gt_b hgt rfl rfl) | ((with_reducible apply does_move); (conv => lhs; whnf)) | ((with_reducible apply does_assign); (conv => lhs; whnf)) | ((with_reducible apply does_and); exact rfl; exact rfl; exact rfl; exact trivial) | ((with_reducible apply does_load_row); exact tyOk rfl; exact rfl; exact rfl; exact rfl; exact Nat.le_of_ble_eq_true rfl; exact rfl) | ((with_reducible apply does_eq); exact rfl; exact rfl) | ((with_reducible apply does_extract); exact rfl; exact rfl) | ((with_reducible apply does_extractA); exact rfl; exact rfl) | ((with_reducible apply does_len_map); exact tyOk rfl; exact rfl; exact rfl) | ((with_reducible apply does_alloc); exact tyOk rfl; exact rfl) | ((with_reducible apply does_store_whole); exact tyOk rfl; exact rfl; exact rfl; exact rfl; exact rfl; exact rfl)); (first | exact lapp_nil _ | exact lapp_1 _ _ | exact lapp_2 _ _ _ | exact lapp_3 _ _ _ _)))) | (with_reducible first | apply aw_seq | apply aw_reg | apply rp_nil | apply ae_norm | apply aw_ret | apply re_ret) | ((with_reducible apply rp); first | ((with_reducible apply does_call'); exact rfl; exact rfl; exact rfl; exact (s1)) | ((with_reducible apply does_call'); exact rfl; exact rfl; exact rfl; exact (p1)) | ((with_reducible apply does_call_flat); exact rfl; exact rfl; exact (c1); exact rfl) | ((with_reducible apply does_call_flat); exact rfl; exact rfl; exact (m1); exact rfl) | (exact does_gt_b hgt rfl rfl) | ((with_reducible apply does_move); (conv => lhs; whnf)) | ((with_reducible apply does_assign); (conv => lhs; whnf)) | ((with_reducible apply does_and); exact rfl; exact rfl; exact rfl; exact trivial) | ((with_reducible apply does_load_row); exact tyOk rfl; exact rfl; exact rfl; exact rfl; exact Nat.le_of_ble_eq_true rfl; exact rfl) | ((with_reducible apply does_eq); exact rfl; exact rfl) | ((with_reducible apply does_extract); exact rfl; exact rfl) | ((with_reducible apply does_extractA); exact rfl; exact rfl) | ((with_reducible apply does_len_map); exact tyOk rfl; exact rfl; exact rfl)) | ((with_reducible apply rp1); ((with_reducible apply does_alloc); exact tyOk rfl; exact rfl)) | ((with_reducible apply rpN); ((with_reducible apply does_store_whole); exact tyOk rfl; exact rfl; exact rfl; exact rfl; exact rfl; exact rfl)) | ((with_reducible apply rpL); (refine does_callG' [] [(2000, 16)] (ups := [(16, .var 83 [.d (rawsD (l.take 40)), .d (iD n'), .d (colsD cols)])]) (v := (.tu [.d (exD x), .d (colsD cols), .px 16 0])) rfl (g1) rfl ?_ rfl ?_ ?_ rfl rfl rfl rfl rfl ?_ ?_ rfl rfl rfl; (focus repeat' exact trivial); (focus repeat' (first | exact trivial | exact inB_px rfl | refine And.intro ?_ ?_)); (focus repeat' (first | exact trivial | exact inB_px rfl | refine And.intro ?_ ?_)); (focus repeat' (first | exact trivial | exact inB_px rfl | refine And.intro ?_ ?_)); (focus repeat' (first | exact trivial | exact inB_px rfl | refine And.intro ?_ ?_))); exact lapp_nil _))
  (with_reducible apply ret_ok); (focus (repeat' (first | (with_reducible apply rv_nil) | (with_reducible apply rv_cons) | ((with_reducible apply rv_tmp); exact rfl)))); exact rfl; refine SubD.of_eq ?_
  rfl
theorem exprBack_walk (A : Option Addr) (l : List Raw) (c : Nat) (kind : Int) (w : World) (h : RdR w w.heap.size A l) (hc : l.length ≤ c) (_ : c * 40 ≤ 140737488351232) (hr : ∀ r ∈ l, r.ok) (hd : I64 kind) (hg : GlOk (Lt w) w) : Calls Tryd.prog 9 #[.slice A l.length c, .int .i64 kind] w fun e w' => e = .returned (.bool true) ∧ Below w.heap.size w w' :=
  calls_of_pc (exprBack_pc l kind) (rep_cons (rep_raws h hc) (rep_cons (rep_int w kind) rfl)) hg
end Go.Proofs.YtlpnnnmdkglkcaaDoor

