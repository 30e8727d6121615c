/-
  eval.exprOf, Fold; sameExpr, as contracts. No condition but that the expression may be.
-/
import Derived.Test.YtnkpnnphmimagaaDoorZFold
namespace Go.Proofs.YtnkpnnphmimagaaDoor
set_option linter.unusedSimpArgs false
set_option linter.unusedVariables false
open Go.RowKit
open Go.Lib

theorem agg_fixed (v : Vl) (I : Nat → Prop) (w : World) : RepD I w (.ag [iD v.k, iD v.n, qD v.b, strD v.t]) (.agg #[.int .i64 v.k, .int .i64 v.n, .int .u64 (v.b : Int), .string v.t]) :=
  repD_agg (l := [.int .i64 v.k, .int .i64 v.n, .int .u64 (v.b : Int), .string v.t]) (by intro u hu; simp at hu; rcases hu with rfl | rfl | rfl | rfl <;> rfl)
theorem agg_sole (op : Nat) (th : Value) (h : th.oneCell' = true) (I : Nat → Prop) (w : World) : RepD I w (.ag [iD op, .sc th]) (.agg #[.int .i64 (op : Int), th]) :=
  repD_agg (l := [.int .i64 (op : Int), th]) (by intro u hu; simp at hu; rcases hu with rfl | rfl; rfl; exact h)
theorem agg_twin (op : Nat) (th th' : Value) (h : th.oneCell' = true) (h' : th'.oneCell' = true) (I : Nat → Prop) (w : World) : RepD I w (.ag [iD op, .sc th, .sc th']) (.agg #[.int .i64 (op : Int), th, th']) :=
  repD_agg (l := [.int .i64 (op : Int), th, th']) (by intro u hu; simp at hu; rcases hu with rfl | rfl | rfl; rfl; exact h; exact h')
theorem ni_fixed : notIface Tryd.prog 136 = true := by kernel_rfl
theorem ni_sole : notIface Tryd.prog 132 = true := by kernel_rfl
theorem ni_twin : notIface Tryd.prog 134 = true := by kernel_rfl
section
variable {dst : Option Nat} {ty : TypeId} {e : Operand → A} {β : Bx} {x : Operand} {xT T' : TypeId} {v : Value} {d : D}
theorem ast_fixed_f (hx : e x = .d (.sc (.iface T' v))) (hne : (T' == 136) = false) : Does Tryd.prog dst (.typeAssert x xT 136 true) ty e β (.tu [.un, .d (bD false)]) [] [] := does_assert_f hx ni_fixed (tyOk rfl) hne
theorem ast_sole_f (hx : e x = .d (.sc (.iface T' v))) (hne : (T' == 132) = false) : Does Tryd.prog dst (.typeAssert x xT 132 true) ty e β (.tu [.un, .d (bD false)]) [] [] := does_assert_f hx ni_sole (tyOk rfl) hne
theorem ast_twin_f (hx : e x = .d (.sc (.iface T' v))) (hne : (T' == 134) = false) : Does Tryd.prog dst (.typeAssert x xT 134 true) ty e β (.tu [.un, .d (bD false)]) [] [] := does_assert_f hx ni_twin (tyOk rfl) hne
theorem ast_fixed_t (hx : e x = .d (.sc (.iface 136 v))) (hd : ∀ I w, RepD I w d v) : Does Tryd.prog dst (.typeAssert x xT 136 true) ty e β (.d (.tu [d, bD true])) [] [] := does_assert_t hx ni_fixed hd
theorem ast_sole_t (hx : e x = .d (.sc (.iface 132 v))) (hd : ∀ I w, RepD I w d v) : Does Tryd.prog dst (.typeAssert x xT 132 true) ty e β (.d (.tu [d, bD true])) [] [] := does_assert_t hx ni_sole hd
theorem ast_twin_t (hx : e x = .d (.sc (.iface 134 v))) (hd : ∀ I w, RepD I w d v) : Does Tryd.prog dst (.typeAssert x xT 134 true) ty e β (.d (.tu [d, bD true])) [] [] := does_assert_t hx ni_twin hd
theorem mk_sole {y : A} (hx : e x = y) (hv : valA y = some v) : Does Tryd.prog dst (.makeInterface 132 x) ty e β (.d (.sc (.iface 132 v))) [] [] := does_makeIface hx hv ni_sole
theorem mk_twin {y : A} (hx : e x = y) (hv : valA y = some v) : Does Tryd.prog dst (.makeInterface 134 x) ty e β (.d (.sc (.iface 134 v))) [] [] := does_makeIface hx hv ni_twin
end
theorem exp_lit (v : Vl) : PC Tryd.prog 62 [.sc (thF [] (.lit v)), .ag (Ex.lit v).cs] (.ag (foldF (.lit v)).cs) := by
  have hd := agg_fixed v
  obtain ⟨k, n, b, t⟩ := v
  unfold thF foldF
  dsimp only at *
  refine pc_of_aw Tryd.func62 rfl (by kernel_rfl) mixed (by kernel_rfl) (by rw [Tryd.ntmps62]; exact Nat.le_of_ble_eq_true rfl) Tryd.results62 ?_
  repeat (first | (with_reducible first | apply aw_seq | apply aw_reg | apply rp_nil | apply ae_norm | apply aw_block | apply aw_ret | apply ae_ret | apply be_ret | apply re_ret) | ((with_reducible apply rp); first | (exact ast_fixed_t rfl hd) | ((with_reducible apply does_move); (conv => lhs; whnf)) | ((with_reducible apply does_fieldAddr); exact tyOk rfl; exact rfl; exact rfl; decide; exact rfl) | ((with_reducible apply does_load_row); exact tyOk rfl; exact rfl; exact rfl; exact rfl; exact Nat.le_of_ble_eq_true rfl; exact rfl) | ((with_reducible apply does_extract); exact rfl; exact rfl) | ((with_reducible apply does_build); exact tyOk rfl; exact rfl; exact rfl; (focus repeat' (first | exact rfl | refine ⟨_, _, rfl, rfl, Nat.le_of_ble_eq_true rfl, rfl, ?_⟩)); exact rfl)) | ((with_reducible apply rp1); first | ((with_reducible apply does_box_ag); exact rfl; exact rfl) | ((with_reducible apply does_alloc); exact tyOk rfl; exact rfl)) | ((with_reducible apply rpN); ((with_reducible apply does_store_whole); exact tyOk rfl; exact rfl; exact rfl; exact rfl; exact rfl; exact rfl)) | ((with_reducible apply aw_cond); exact rfl; rotate_left; (focus (intro hd; (cases hd; done))); (intro hd; clear hd)))
  (with_reducible apply ret_ok); (focus (repeat' (first | (with_reducible apply rv_nil) | (with_reducible apply rv_cons) | ((with_reducible apply rv_rowd); exact rfl; exact rfl; exact tyOk rfl; exact rfl; exact rfl)))); exact rfl
  exact nil_sub _
theorem exp_col (n : ByteArray) : PC Tryd.prog 62 [.sc (thF [] (.col n)), .ag (Ex.col n).cs] (.ag (foldF (.col n)).cs) := by
  unfold thF foldF findI
  dsimp only
  refine pc_of_aw Tryd.func62 rfl (by kernel_rfl) mixed (by kernel_rfl) (by rw [Tryd.ntmps62]; exact Nat.le_of_ble_eq_true rfl) Tryd.results62 ?_
  repeat (first | (with_reducible first | apply aw_seq | apply aw_reg | apply rp_nil | apply ae_norm | apply aw_block | apply be_norm | apply aw_ret | apply re_ret | apply aw_skip) | ((with_reducible apply rp); first | (exact ast_fixed_f rfl rfl) | (exact ast_sole_f rfl rfl) | (exact ast_twin_f rfl rfl) | (exact does_extractA rfl rfl) | ((with_reducible apply does_move); (conv => lhs; whnf)) | ((with_reducible apply does_fieldAddr); exact tyOk rfl; exact rfl; exact rfl; decide; exact rfl) | ((with_reducible apply does_load_var); exact tyOk rfl; exact rfl; exact rfl; exact rfl; exact rfl) | ((with_reducible apply does_build); exact tyOk rfl; exact rfl; exact rfl; (focus repeat' (first | exact rfl | refine ⟨_, _, rfl, rfl, Nat.le_of_ble_eq_true rfl, rfl, ?_⟩)); exact rfl)) | ((with_reducible apply rp1); first | ((with_reducible apply does_box_ag); exact rfl; exact rfl) | ((with_reducible apply does_alloc); exact tyOk rfl; exact rfl)) | ((with_reducible apply rpN); ((with_reducible apply does_store_whole); exact tyOk rfl; exact rfl; exact rfl; exact rfl; exact rfl; exact rfl)) | ((with_reducible apply aw_cond); exact rfl; (focus (intro hd; (cases hd; done))); (intro hd; clear hd)))
  (with_reducible apply ret_ok); (focus (repeat' (first | (with_reducible apply rv_nil) | (with_reducible apply rv_cons) | ((with_reducible apply rv_rowd); exact rfl; exact rfl; exact tyOk rfl; exact rfl; exact rfl)))); exact rfl
  exact nil_sub _
set_option maxHeartbeats 2000000 in
theorem exp_un (op : Nat) (a : Ex) (hok : (Ex.un op a).ok) (ih : PC Tryd.prog 62 [.sc (thF [] a), .ag a.cs] (.ag (foldF a).cs)) : PC Tryd.prog 62 [.sc (thF [] (.un op a)), .ag (Ex.un op a).cs] (.ag (foldF (.un op a)).cs) := by
  have f1 := folded_pc (thF [] (.un op a)) _ (eof_pc [] [] rfl (by decide) (by simp) (.un op a) hok).nil (.un op (foldF a))
  have h1 := thF_one [] a
  have hd := agg_sole op (thF [] a) h1
  unfold foldF
  have hth : thF [] (.un op a) = .iface 132 (.agg #[.int .i64 (op : Int), thF [] a]) := rfl
  rw [hth] at f1 ⊢
  have hfc : (Ex.un op (foldF a)).cs = [iD op, iD 0, iD 0, qD 0, strD .empty, strD .empty, .sl 7 [(foldF a).cs]] := rfl
  have hxc : (Ex.un op a).cs = [iD op, iD 0, iD 0, qD 0, strD .empty, strD .empty, .sl 7 [a.cs]] := rfl
  rw [hfc] at f1
  rw [hxc]
  generalize foldG (evF [] [] (.un op a)) (.un op (foldF a)) = q at *
  generalize thF [] a = th at *
  have hal := a.cs_eq
  generalize a.cs = ac at *
  subst hal
  have hfl := (foldF a).cs_eq
  generalize (foldF a).cs = fc at *
  subst hfl
  have hql := q.cs_eq
  generalize q.cs = qc at *
  subst hql
  have hga : [[iD a.op, iD a.val.k, iD a.val.n, qD a.val.b, strD a.val.t, strD a.nam, .sl 7 (a.args.map Ex.cs)]][0]? = some [iD a.op, iD a.val.k, iD a.val.n, qD a.val.b, strD a.val.t, strD a.nam, .sl 7 (a.args.map Ex.cs)] := rfl
  clear hok hth hfc hxc
  refine pc_of_aw Tryd.func62 rfl (by kernel_rfl) mixed (by kernel_rfl) (by rw [Tryd.ntmps62]; exact Nat.le_of_ble_eq_true rfl) Tryd.results62 ?_
  repeat (first | ((with_reducible apply dr1); (with_reducible apply does_frzV 29); exact rfl; exact rfl; (with_reducible apply does_build); exact tyOk rfl; exact rfl; exact rfl; (focus repeat' (first | exact rfl | refine ⟨_, _, rfl, rfl, Nat.le_of_ble_eq_true rfl, rfl, ?_⟩)); exact rfl) | (with_reducible first | apply aw_seq | apply aw_reg | apply rp_nil | apply ae_norm | apply aw_regD | apply aw_block | apply aw_ret | apply ae_ret | apply be_ret | apply re_ret) | ((with_reducible apply dr_nil); (first | kernel_rfl | exact rfl)) | ((with_reducible first | apply rp | apply dr); first | (exact ast_fixed_f rfl rfl) | (exact ast_sole_t rfl hd) | (exact does_extractA rfl rfl) | (exact mk_sole rfl rfl) | ((with_reducible apply does_call'); exact rfl; exact rfl; exact rfl; exact (ih)) | ((with_reducible apply does_call'); exact rfl; exact rfl; exact rfl; exact (f1)) | ((with_reducible apply does_move); (conv => lhs; whnf)) | ((with_reducible apply does_fieldAddr); exact tyOk rfl; exact rfl; exact rfl; decide; exact rfl) | ((with_reducible apply does_load_var); exact tyOk rfl; exact rfl; exact rfl; exact rfl; exact rfl) | ((with_reducible apply does_load_row); exact tyOk rfl; exact rfl; exact rfl; exact rfl; exact Nat.le_of_ble_eq_true rfl; exact rfl) | ((with_reducible apply does_load_elem_whole); exact tyOk rfl; exact rfl; exact rfl; assumption; exact rfl) | ((with_reducible apply does_index_sl); exact tyOk rfl; exact rfl; exact tyOk rfl; exact rfl; exact rfl; exact rfl; exact rfl; (dsimp only; simp only [List.length_map, List.length_append, List.length_cons, List.length_nil] at *; omega)) | ((with_reducible apply does_extract); exact rfl; exact rfl)) | ((with_reducible first | apply rp1 | apply dr1); first | ((with_reducible apply does_box_ag); exact rfl; exact rfl) | ((with_reducible apply does_alloc); exact tyOk rfl; exact rfl) | ((with_reducible apply does_buildSlice); exact tyOk rfl; exact rfl; exact tyOk rfl; exact rfl; exact rfl; (focus repeat' (first | exact trivial | refine And.intro rfl (And.intro rfl ?_))); decide; decide; exact rfl)) | ((with_reducible first | apply rpN | apply drN); ((with_reducible apply does_store_whole); exact tyOk rfl; exact rfl; exact rfl; exact rfl; exact rfl; exact rfl)) | ((with_reducible apply aw_cond); exact rfl; (focus (intro hd; (cases hd; done))); (intro hd; clear hd)) | ((with_reducible apply aw_cond); exact rfl; rotate_left; (focus (intro hd; (cases hd; done))); (intro hd; clear hd)))
  (with_reducible apply ret_ok); (focus (repeat' (first | (with_reducible apply rv_nil) | (with_reducible apply rv_cons) | ((with_reducible apply rv_rowd); exact rfl; exact rfl; exact tyOk rfl; exact rfl; exact rfl)))); exact rfl; refine SubD.of_eq ?_
  rfl
set_option maxHeartbeats 2000000 in
theorem exp_bi (op : Nat) (a b : Ex) (hok : (Ex.bi op a b).ok) (ih : PC Tryd.prog 62 [.sc (thF [] a), .ag a.cs] (.ag (foldF a).cs)) (ih' : PC Tryd.prog 62 [.sc (thF [] b), .ag b.cs] (.ag (foldF b).cs)) : PC Tryd.prog 62 [.sc (thF [] (.bi op a b)), .ag (Ex.bi op a b).cs] (.ag (foldF (.bi op a b)).cs) := by
  have f1 := folded_pc (thF [] (.bi op a b)) _ (eof_pc [] [] rfl (by decide) (by simp) (.bi op a b) hok).nil (.bi op (foldF a) (foldF b))
  have h1 := thF_one [] a
  have h2 := thF_one [] b
  have hd := agg_twin op (thF [] a) (thF [] b) h1 h2
  unfold foldF
  have hth : thF [] (.bi op a b) = .iface 134 (.agg #[.int .i64 (op : Int), thF [] a, thF [] b]) := rfl
  rw [hth] at f1 ⊢
  have hfc : (Ex.bi op (foldF a) (foldF b)).cs = [iD op, iD 0, iD 0, qD 0, strD .empty, strD .empty, .sl 7 [(foldF a).cs, (foldF b).cs]] := rfl
  have hxc : (Ex.bi op a b).cs = [iD op, iD 0, iD 0, qD 0, strD .empty, strD .empty, .sl 7 [a.cs, b.cs]] := rfl
  rw [hfc] at f1
  rw [hxc]
  generalize foldG (evF [] [] (.bi op a b)) (.bi op (foldF a) (foldF b)) = q at *
  generalize thF [] a = th at *
  generalize thF [] b = th' at *
  have hal := a.cs_eq
  generalize a.cs = ac at *
  subst hal
  have hbl := b.cs_eq
  generalize b.cs = bc at *
  subst hbl
  have hfl := (foldF a).cs_eq
  generalize (foldF a).cs = fc at *
  subst hfl
  have hgl := (foldF b).cs_eq
  generalize (foldF b).cs = gc at *
  subst hgl
  have hql := q.cs_eq
  generalize q.cs = qc at *
  subst hql
  have hga : [[iD a.op, iD a.val.k, iD a.val.n, qD a.val.b, strD a.val.t, strD a.nam, .sl 7 (a.args.map Ex.cs)], [iD b.op, iD b.val.k, iD b.val.n, qD b.val.b, strD b.val.t, strD b.nam, .sl 7 (b.args.map Ex.cs)]][0]? = some [iD a.op, iD a.val.k, iD a.val.n, qD a.val.b, strD a.val.t, strD a.nam, .sl 7 (a.args.map Ex.cs)] := rfl
  have hgb : [[iD a.op, iD a.val.k, iD a.val.n, qD a.val.b, strD a.val.t, strD a.nam, .sl 7 (a.args.map Ex.cs)], [iD b.op, iD b.val.k, iD b.val.n, qD b.val.b, strD b.val.t, strD b.nam, .sl 7 (b.args.map Ex.cs)]][1]? = some [iD b.op, iD b.val.k, iD b.val.n, qD b.val.b, strD b.val.t, strD b.nam, .sl 7 (b.args.map Ex.cs)] := rfl
  clear hok hth hfc hxc
  refine pc_of_aw Tryd.func62 rfl (by kernel_rfl) mixed (by kernel_rfl) (by rw [Tryd.ntmps62]; exact Nat.le_of_ble_eq_true rfl) Tryd.results62 ?_
  repeat (first | ((with_reducible apply dr1); (with_reducible apply does_frzV 53); exact rfl; exact rfl; (with_reducible apply does_build); exact tyOk rfl; exact rfl; exact rfl; (focus repeat' (first | exact rfl | refine ⟨_, _, rfl, rfl, Nat.le_of_ble_eq_true rfl, rfl, ?_⟩)); exact rfl) | (with_reducible first | apply aw_seq | apply aw_reg | apply rp_nil | apply ae_norm | apply aw_regD | apply aw_block | apply aw_ret | apply ae_ret | apply be_ret | apply re_ret) | ((with_reducible apply dr_nil); (first | kernel_rfl | exact rfl)) | ((with_reducible first | apply rp | apply dr); first | (exact ast_fixed_f rfl rfl) | (exact ast_sole_f rfl rfl) | (exact ast_twin_t rfl hd) | (exact does_extractA rfl rfl) | (exact mk_twin rfl rfl) | ((with_reducible apply does_call'); exact rfl; exact rfl; exact rfl; exact (ih)) | ((with_reducible apply does_call'); exact rfl; exact rfl; exact rfl; exact (ih')) | ((with_reducible apply does_call'); exact rfl; exact rfl; exact rfl; exact (f1)) | ((with_reducible apply does_move); (conv => lhs; whnf)) | ((with_reducible apply does_fieldAddr); exact tyOk rfl; exact rfl; exact rfl; decide; exact rfl) | ((with_reducible apply does_load_var); exact tyOk rfl; exact rfl; exact rfl; exact rfl; exact rfl) | ((with_reducible apply does_load_row); exact tyOk rfl; exact rfl; exact rfl; exact rfl; exact Nat.le_of_ble_eq_true rfl; exact rfl) | ((with_reducible apply does_load_elem_whole); exact tyOk rfl; exact rfl; exact rfl; assumption; exact rfl) | ((with_reducible apply does_index_sl); exact tyOk rfl; exact rfl; exact tyOk rfl; exact rfl; exact rfl; exact rfl; exact rfl; (dsimp only; simp only [List.length_map, List.length_append, List.length_cons, List.length_nil] at *; omega)) | ((with_reducible apply does_extract); exact rfl; exact rfl)) | ((with_reducible first | apply rp1 | apply dr1); first | ((with_reducible apply does_box_ag); exact rfl; exact rfl) | ((with_reducible apply does_alloc); exact tyOk rfl; exact rfl) | ((with_reducible apply does_buildSlice); exact tyOk rfl; exact rfl; exact tyOk rfl; exact rfl; exact rfl; (focus repeat' (first | exact trivial | refine And.intro rfl (And.intro rfl ?_))); decide; decide; exact rfl)) | ((with_reducible first | apply rpN | apply drN); ((with_reducible apply does_store_whole); exact tyOk rfl; exact rfl; exact rfl; exact rfl; exact rfl; exact rfl)) | ((with_reducible apply aw_cond); exact rfl; (focus (intro hd; (cases hd; done))); (intro hd; clear hd)) | ((with_reducible apply aw_cond); exact rfl; rotate_left; (focus (intro hd; (cases hd; done))); (intro hd; clear hd)))
  (with_reducible apply ret_ok); (focus (repeat' (first | (with_reducible apply rv_nil) | (with_reducible apply rv_cons) | ((with_reducible apply rv_rowd); exact rfl; exact rfl; exact tyOk rfl; exact rfl; exact rfl)))); exact rfl; refine SubD.of_eq ?_
  rfl
theorem exprOf_pc : ∀ x : Ex, x.ok → PC Tryd.prog 62 [.sc (thF [] x), .ag x.cs] (.ag (foldF x).cs)
  | .lit v, _ => exp_lit v
  | .col n, _ => exp_col n
  | .un op a, h => exp_un op a h (exprOf_pc a h.2)
  | .bi op a b, h => exp_bi op a b h (exprOf_pc a h.2.1) (exprOf_pc b h.2.2)
theorem fold_pc (x : Ex) (hok : x.ok) (hd : x.deep ≤ 7) (hn : x.num ≤ 40) : PC Tryd.prog 42 [.ag x.cs] (.tu [.ag (foldF x).cs, iD 0]) := by
  have e1 := expr_check x hok hd hn
  have t1 := (thingOf_pc [] (by decide) x).args (SubDs.cons (SubD.refl _) (fun h => h) (SubDs.cons (SubD.nil 3) (fun h => h) SubDs.nil))
  have o1 := exprOf_pc x hok
  generalize foldF x = q at *
  generalize thF [] x = th at *
  have hxl := x.cs_eq
  generalize x.cs = c at *
  subst hxl
  have hql := q.cs_eq
  generalize q.cs = d at *
  subst hql
  clear hok hd hn
  refine pc_of_aw Tryd.func42 rfl (by kernel_rfl) mixed (by kernel_rfl) (by rw [Tryd.ntmps42]; exact Nat.le_of_ble_eq_true rfl) Tryd.results42 ?_
  repeat (first | (with_reducible first | apply aw_seq | apply aw_reg | apply rp_nil | apply ae_norm | apply aw_regD | apply aw_ret | apply re_ret | apply aw_skip) | ((with_reducible apply dr_nil); (first | kernel_rfl | exact rfl)) | ((with_reducible first | apply rp | apply dr); first | ((with_reducible apply does_call_flat); exact rfl; exact rfl; exact (e1); exact rfl) | ((with_reducible apply does_call_flat); exact rfl; exact rfl; exact (t1); exact rfl) | ((with_reducible apply does_call'); exact rfl; exact rfl; exact rfl; exact (o1)) | ((with_reducible apply does_move); (conv => lhs; whnf)) | ((with_reducible apply does_assign); (conv => lhs; whnf)) | ((with_reducible apply does_load_row); exact tyOk rfl; exact rfl; exact rfl; exact rfl; exact Nat.le_of_ble_eq_true rfl; exact rfl) | ((with_reducible apply does_ne); exact rfl; exact rfl)) | ((with_reducible apply rp1); first | ((with_reducible apply does_box_ag); exact rfl; exact rfl) | ((with_reducible apply does_alloc); exact tyOk rfl; exact rfl)) | ((with_reducible apply drN); ((with_reducible apply does_store_whole); exact tyOk rfl; exact rfl; exact rfl; exact rfl; exact rfl; exact rfl)) | ((with_reducible apply aw_cond); exact rfl; (focus (intro hd; (cases hd; done))); (intro hd; clear hd)))
  (with_reducible apply ret_ok); (focus (repeat' (first | (with_reducible apply rv_nil) | (with_reducible apply rv_cons) | ((with_reducible apply rv_tmp); exact rfl) | ((with_reducible apply rv_rowd); exact rfl; exact rfl; exact tyOk rfl; exact rfl; exact rfl)))); exact rfl; refine SubD.of_eq ?_
  rfl
set_option maxHeartbeats 2000000 in
theorem same_step (x : Ex) (ih : ∀ a ∈ x.args, PC Tryd.prog 43 [.ag a.cs, .ag a.cs] (bD true)) : PC Tryd.prog 43 [.ag x.cs, .ag x.cs] (bD true) := by
  have hl := x.args_len
  have hxl := x.cs_eq
  generalize x.cs = c at *
  subst hxl
  have hc : ((x.op : Int) != x.op || !(x.val.k == x.val.k && (x.val.n == x.val.n && ((x.val.b : Int) == x.val.b && (x.val.t.toList == x.val.t.toList && true)))) || !(x.nam.toList == x.nam.toList) || ((x.args.length : Nat) : Int) != x.args.length) = false := by simp
  refine pc_of_aw Tryd.func43 rfl (by kernel_rfl) mixed (by kernel_rfl) (by rw [Tryd.ntmps43]; exact Nat.le_of_ble_eq_true rfl) Tryd.results43 ?_
  repeat (first | (with_reducible first | apply aw_seq | apply aw_reg | apply rp_nil | apply ae_norm) | ((first | (with_reducible apply rp) | ((with_reducible apply rpG); exact rfl; exact gval_f rfl; (focus repeat' (first | exact trivial | exact fun h => h | refine And.intro ?_ ?_)); intro hgd; have hgd0 := hgd; (try simp only [decide_eq_true_eq, Bool.and_eq_true, Bool.not_eq_true', beq_iff_eq] at hgd))); first | ((with_reducible apply does_move); (conv => lhs; whnf)) | ((with_reducible apply does_assign); (conv => lhs; whnf)) | ((with_reducible apply does_or); exact rfl; exact rfl; exact rfl; exact fun h => h) | ((with_reducible apply does_fieldAddr); exact tyOk rfl; exact rfl; exact rfl; decide; exact rfl) | ((with_reducible apply does_load_var); exact tyOk rfl; exact rfl; exact rfl; exact rfl; exact rfl) | ((with_reducible apply does_load_row); exact tyOk rfl; exact rfl; exact rfl; exact rfl; exact Nat.le_of_ble_eq_true rfl; exact rfl) | ((with_reducible apply does_ne); exact rfl; exact rfl) | ((with_reducible apply does_sne); exact rfl; exact rfl) | ((with_reducible apply does_neS); exact rfl; exact rfl; exact tgOk rfl; exact rfl) | ((with_reducible apply does_len_map); exact tyOk rfl; exact rfl; exact rfl)) | ((with_reducible apply rp1); ((with_reducible apply does_box_ag); exact rfl; exact rfl)))
  refine aw_cond rfl (fun hd => ?_) (fun hd => ?_)
  · exfalso
    simp at hd
  clear hd
  repeat (first | (with_reducible first | apply aw_seq | apply aw_reg | apply rp_nil | apply ae_norm | apply aw_block | apply aw_skip) | ((with_reducible apply rp); first | ((with_reducible apply does_move); (conv => lhs; whnf)) | ((with_reducible apply does_fieldAddr); exact tyOk rfl; exact rfl; exact rfl; decide; exact rfl) | ((with_reducible apply does_load_var); exact tyOk rfl; exact rfl; exact rfl; exact rfl; exact rfl) | ((with_reducible apply does_len_map); exact tyOk rfl; exact rfl; exact rfl)))
  refine aw_loop (fun m s => ∃ k, k ≤ x.args.length ∧ m = x.args.length - k ∧ s = ⟨[(2, .px 2 0), (3, .px 3 0), (36, .d (iD x.args.length)), (37, .d (iD k))],
    [(2, .var 28 [.d (iD x.op), .d (iD x.val.k), .d (iD x.val.n), .d (qD x.val.b), .d (strD x.val.t), .d (strD x.nam), .d (.sl 7 (x.args.map Ex.cs))]), (3, .var 28 [.d (iD x.op), .d (iD x.val.k), .d (iD x.val.n), .d (qD x.val.b), .d (strD x.val.t), .d (strD x.nam), .d (.sl 7 (x.args.map Ex.cs))])]⟩) _ _ ?_ ⟨0, by omega, rfl, rfl⟩ ?_
  · refine forget_of [] (by repeat' (first | exact ks_nil | (refine ks_cons rfl (by exact SubA.refl _) ?_))) (by repeat' (first | exact trivial | exact rfl | refine And.intro ?_ ?_)) rfl (by repeat' (first | exact trivial | exact inB_px rfl | refine And.intro ?_ ?_)) (by repeat' (first | exact trivial | exact inB_px rfl | refine And.intro ?_ ?_))
  · rintro m s ⟨k, hk, rfl, rfl⟩
    repeat (first | (with_reducible first | apply aw_seq | apply aw_reg | apply rp_nil | apply ae_norm) | ((with_reducible apply rp); ((with_reducible apply does_lt); exact rfl; exact rfl)))
    refine aw_cond rfl (fun hd => ?_) (fun hd => ?_)
    · have hlt : k < x.args.length := by simp at hd; omega
      clear hd
      obtain ⟨a, ha⟩ : ∃ a, x.args[k]? = some a := ⟨_, List.getElem?_eq_getElem hlt⟩
      have ha2 : (x.args.map Ex.cs)[k]? = some a.cs := by rw [List.getElem?_map, ha]; rfl
      have i1 := ih a (List.mem_of_getElem? ha)
      have hal := a.cs_eq
      generalize a.cs = ac at *
      subst hal
      repeat (first | (with_reducible first | apply aw_seq | apply aw_reg | apply rp_nil | apply ae_norm | apply aw_regD | apply aw_block | apply be_norm | apply aw_skip) | ((with_reducible apply dr_nil); (first | kernel_rfl | exact rfl)) | ((with_reducible first | apply rp | apply dr); first | ((with_reducible apply does_call_flat); exact rfl; exact rfl; exact (i1); exact rfl) | ((with_reducible apply does_move); (conv => lhs; whnf)) | ((with_reducible apply does_assign); (conv => lhs; whnf)) | ((with_reducible apply does_fieldAddr); exact tyOk rfl; exact rfl; exact rfl; decide; exact rfl) | ((with_reducible apply does_load_var); exact tyOk rfl; exact rfl; exact rfl; exact rfl; exact rfl) | ((with_reducible apply does_load_elem_whole); exact tyOk rfl; exact rfl; exact rfl; assumption; exact rfl) | ((with_reducible apply does_index_sl); exact tyOk rfl; exact rfl; exact tyOk rfl; exact rfl; exact rfl; exact rfl; exact rfl; (simp only [List.length_map, List.length_append, List.length_cons, List.length_nil] at *; omega)) | ((with_reducible apply does_add); exact rfl; exact rfl; omega; omega) | ((with_reducible apply does_not); exact rfl)) | ((with_reducible apply aw_cond); exact rfl; (focus (intro hd; (cases hd; done))); (intro hd; clear hd)))
      refine ⟨_, _, ?_, ?_, k + 1, by omega, rfl, rfl⟩
      · omega
      · refine forget_of [] (by repeat' (first | exact ks_nil | (refine ks_cons rfl (by exact SubA.refl _) ?_))) (by repeat' (first | exact trivial | exact rfl | refine And.intro ?_ ?_)) rfl (by repeat' (first | exact trivial | exact inB_px rfl | refine And.intro ?_ ?_)) (by repeat' (first | exact trivial | exact inB_px rfl | refine And.intro ?_ ?_))
    · have hke : k = x.args.length := by simp at hd; omega
      clear hd
      subst hke
      repeat (first | (with_reducible first | apply aw_seq | apply aw_reg | apply rp_nil | apply ae_norm | apply aw_exit | apply ae_exit | apply be_exit | apply aw_ret | apply re_ret) | ((with_reducible apply rp); ((with_reducible apply does_assign); (conv => lhs; whnf))))
      (with_reducible apply ret_ok); (focus (repeat' (first | (with_reducible apply rv_nil) | (with_reducible apply rv_cons) | ((with_reducible apply rv_tmp); exact rfl)))); exact rfl; refine SubD.of_eq ?_
      rfl
theorem same_pc : ∀ x : Ex, PC Tryd.prog 43 [.ag x.cs, .ag x.cs] (bD true)
  | .lit v => same_step (.lit v) fun a h => by cases h
  | .col n => same_step (.col n) fun a h => by cases h
  | .un op a => same_step (.un op a) fun b h => by
    have h : b = a := by simpa [Ex.args] using h
    rw [h]; exact same_pc a
  | .bi op a b => same_step (.bi op a b) fun c h => by
    have h : c = a ∨ c = b := by simpa [Ex.args] using h
    rcases h with h | h
    · rw [h]; exact same_pc a
    · rw [h]; exact same_pc b
end Go.Proofs.YtnkpnnphmimagaaDoor

