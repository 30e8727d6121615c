/-
  chirograph/eval: an expression made ready, and what it says of a row, as contracts. No condition but that the expression and the row may be.
-/
import Derived.Test.YtpaccaojgbfjdaaDoorZEv2
import Derived.Test.YtpaccaojgbfjdaaDoorZG
namespace Go.Proofs.YtpaccaojgbfjdaaDoor
set_option linter.unusedSimpArgs false
set_option linter.unusedVariables false
open Go.RowKit
open Go.Lib

/-- An expression made ready, over columns. -/
def thF (cols : List Cl) : Ex → Value
  | .lit v => .iface 154 (.agg #[.int .i64 v.k, .int .i64 v.n, .int .u64 (v.b : Int), .string v.t])
  | .col n => match findI n 0 cols with
    | some i => .iface 156 (.agg #[.int .i64 (i : Int)])
    | none => .iface 158 (.agg #[])
  | .un op a => .iface 150 (.agg #[.int .i64 (op : Int), thF cols a])
  | .bi op a b => .iface 152 (.agg #[.int .i64 (op : Int), thF cols a, thF cols b])
theorem thF_one (cols : List Cl) (x : Ex) : (thF cols x).oneCell' = true := by
  cases x with
  | col n => unfold thF; split <;> rfl
  | _ => rfl
theorem findI_drop {n : ByteArray} {k : Nat} {c : Cl} {cols : List Cl} (h : cols[k]? = some c) : findI n k (cols.drop k) = if c.name = n then some k else findI n (k + 1) (cols.drop (k + 1)) := by
  obtain ⟨hk, rfl⟩ := List.getElem?_eq_some_iff.1 h
  rw [List.drop_eq_getElem_cons hk]
  rfl
set_option maxHeartbeats 2000000 in
theorem thing_lit (cols : List Cl) (v : Vl) : PC Tryd.prog 52 [.ag (Ex.lit v).cs, colsD cols] (.sc (thF cols (.lit v))) := by
  obtain ⟨k, n, b, t⟩ := v
  unfold Ex.cs thF
  dsimp only
  refine pc_of_aw Tryd.func52 rfl (by kernel_rfl) mixed (by kernel_rfl) (by rw [Tryd.ntmps52]; exact Nat.le_of_ble_eq_true rfl) Tryd.results52 ?_
  repeat (first | (with_reducible first | apply aw_seq | apply aw_reg | apply rp_nil | apply ae_norm | apply aw_block | apply be_norm | apply aw_ret | apply ae_ret | apply re_ret | apply aw_skip) | ((with_reducible apply rp); first | (exact does_makeIface rfl rfl (by kernel_rfl)) | ((with_reducible apply does_assign); (conv => lhs; whnf)) | ((with_reducible apply does_fieldAddr); exact tyOk rfl; exact rfl; exact rfl; decide; exact rfl) | ((with_reducible apply does_load_var); exact tyOk rfl; exact rfl; exact rfl; exact rfl; exact rfl) | ((with_reducible apply does_load_row); exact tyOk rfl; exact rfl; exact rfl; exact rfl; exact Nat.le_of_ble_eq_true rfl; exact rfl) | ((with_reducible apply does_eq); exact rfl; exact rfl) | ((with_reducible apply does_len_sl); exact tyOk rfl; exact rfl; exact rfl) | ((with_reducible apply does_build); exact tyOk rfl; exact rfl; exact rfl; (focus repeat' (first | exact rfl | refine ⟨_, _, rfl, rfl, Nat.le_of_ble_eq_true rfl, rfl, ?_⟩)); exact rfl)) | ((with_reducible apply rp1); ((with_reducible apply does_box_ag); exact rfl; exact rfl)) | ((with_reducible apply aw_cond); exact rfl; (focus (intro hd; (cases hd; done))); (intro hd; clear hd)) | ((with_reducible apply aw_cond); exact rfl; rotate_left; (focus (intro hd; (cases hd; done))); (intro hd; clear hd)))
  (with_reducible apply ret_ok); (focus (repeat' (first | (with_reducible apply rv_nil) | (with_reducible apply rv_cons) | ((with_reducible apply rv_tmp); exact rfl)))); exact rfl; refine SubD.of_eq ?_
  rfl
set_option maxHeartbeats 2000000 in
theorem thing_un (cols : List Cl) (op : Nat) (a : Ex) (h : PC Tryd.prog 52 [.ag a.cs, colsD cols] (.sc (thF cols a))) : PC Tryd.prog 52 [.ag (Ex.un op a).cs, colsD cols] (.sc (thF cols (.un op a))) := by
  have h1 := thF_one cols a
  unfold Ex.cs thF
  generalize thF cols a = th at *
  have hxl := a.cs_eq
  generalize a.cs = ca at *
  subst hxl
  have hga : [[iD a.op, iD a.val.k, iD a.val.n, qD a.val.b, strD a.val.t, strD a.nam, .sl 7 (a.args.map Ex.cs)]][0]? = some [iD a.op, iD a.val.k, iD a.val.n, qD a.val.b, strD a.val.t, strD a.nam, .sl 7 (a.args.map Ex.cs)] := rfl
  refine pc_of_aw Tryd.func52 rfl (by kernel_rfl) mixed (by kernel_rfl) (by rw [Tryd.ntmps52]; exact Nat.le_of_ble_eq_true rfl) Tryd.results52 ?_
  repeat (first | (with_reducible first | apply aw_seq | apply aw_reg | apply rp_nil | apply ae_norm | apply aw_regD | apply aw_block | apply aw_ret | apply ae_ret | apply be_ret | apply re_ret) | ((with_reducible apply dr_nil); (first | kernel_rfl | exact rfl)) | ((with_reducible first | apply rp | apply dr); first | ((with_reducible apply does_call_flat); exact rfl; exact rfl; exact (h); exact rfl) | (exact does_makeIface rfl rfl (by kernel_rfl)) | ((with_reducible apply does_move); (conv => lhs; whnf)) | ((with_reducible apply does_assign); (conv => lhs; whnf)) | ((with_reducible apply does_fieldAddr); exact tyOk rfl; exact rfl; exact rfl; decide; exact rfl) | ((with_reducible apply does_load_var); exact tyOk rfl; exact rfl; exact rfl; exact rfl; exact rfl) | ((with_reducible apply does_load_elem_whole); exact tyOk rfl; exact rfl; exact rfl; assumption; exact rfl) | ((with_reducible apply does_index_sl); exact tyOk rfl; exact rfl; exact tyOk rfl; exact rfl; exact rfl; exact rfl; exact rfl; (dsimp only; simp only [List.length_map, List.length_append, List.length_cons, List.length_nil] at *; omega)) | ((with_reducible apply does_eq); exact rfl; exact rfl) | ((with_reducible apply does_len_sl); exact tyOk rfl; exact rfl; exact rfl) | ((with_reducible apply does_build); exact tyOk rfl; exact rfl; exact rfl; (focus repeat' (first | exact rfl | refine ⟨_, _, rfl, rfl, Nat.le_of_ble_eq_true rfl, rfl, ?_⟩)); exact rfl)) | ((with_reducible apply rp1); ((with_reducible apply does_box_ag); exact rfl; exact rfl)) | ((with_reducible apply aw_cond); exact rfl; rotate_left; (focus (intro hd; (cases hd; done))); (intro hd; clear hd)))
  (with_reducible apply ret_ok); (focus (repeat' (first | (with_reducible apply rv_nil) | (with_reducible apply rv_cons) | ((with_reducible apply rv_tmp); exact rfl)))); exact rfl; refine SubD.of_eq ?_
  rfl
set_option maxHeartbeats 2000000 in
theorem thing_bi (cols : List Cl) (op : Nat) (a b : Ex) (h : PC Tryd.prog 52 [.ag a.cs, colsD cols] (.sc (thF cols a))) (h' : PC Tryd.prog 52 [.ag b.cs, colsD cols] (.sc (thF cols b))) : PC Tryd.prog 52 [.ag (Ex.bi op a b).cs, colsD cols] (.sc (thF cols (.bi op a b))) := by
  have h1 := thF_one cols a
  have h2 := thF_one cols b
  unfold Ex.cs thF
  generalize thF cols a = th at *
  generalize thF cols b = th' at *
  have hxl := a.cs_eq
  generalize a.cs = ca at *
  subst hxl
  have hyl := b.cs_eq
  generalize b.cs = cb at *
  subst hyl
  have hga : [[iD a.op, iD a.val.k, iD a.val.n, qD a.val.b, strD a.val.t, strD a.nam, .sl 7 (a.args.map Ex.cs)], [iD b.op, iD b.val.k, iD b.val.n, qD b.val.b, strD b.val.t, strD b.nam, .sl 7 (b.args.map Ex.cs)]][0]? = some [iD a.op, iD a.val.k, iD a.val.n, qD a.val.b, strD a.val.t, strD a.nam, .sl 7 (a.args.map Ex.cs)] := rfl
  have hgb : [[iD a.op, iD a.val.k, iD a.val.n, qD a.val.b, strD a.val.t, strD a.nam, .sl 7 (a.args.map Ex.cs)], [iD b.op, iD b.val.k, iD b.val.n, qD b.val.b, strD b.val.t, strD b.nam, .sl 7 (b.args.map Ex.cs)]][1]? = some [iD b.op, iD b.val.k, iD b.val.n, qD b.val.b, strD b.val.t, strD b.nam, .sl 7 (b.args.map Ex.cs)] := rfl
  refine pc_of_aw Tryd.func52 rfl (by kernel_rfl) mixed (by kernel_rfl) (by rw [Tryd.ntmps52]; exact Nat.le_of_ble_eq_true rfl) Tryd.results52 ?_
  repeat (first | (with_reducible first | apply aw_seq | apply aw_reg | apply rp_nil | apply ae_norm | apply aw_regD | apply aw_block | apply aw_ret | apply ae_ret | apply be_ret | apply re_ret) | ((with_reducible apply dr_nil); (first | kernel_rfl | exact rfl)) | ((with_reducible first | apply rp | apply dr); first | ((with_reducible apply does_call_flat); exact rfl; exact rfl; exact (h); exact rfl) | ((with_reducible apply does_call_flat); exact rfl; exact rfl; exact (h'); exact rfl) | (exact does_makeIface rfl rfl (by kernel_rfl)) | ((with_reducible apply does_move); (conv => lhs; whnf)) | ((with_reducible apply does_assign); (conv => lhs; whnf)) | ((with_reducible apply does_fieldAddr); exact tyOk rfl; exact rfl; exact rfl; decide; exact rfl) | ((with_reducible apply does_load_var); exact tyOk rfl; exact rfl; exact rfl; exact rfl; exact rfl) | ((with_reducible apply does_load_elem_whole); exact tyOk rfl; exact rfl; exact rfl; assumption; exact rfl) | ((with_reducible apply does_index_sl); exact tyOk rfl; exact rfl; exact tyOk rfl; exact rfl; exact rfl; exact rfl; exact rfl; (dsimp only; simp only [List.length_map, List.length_append, List.length_cons, List.length_nil] at *; omega)) | ((with_reducible apply does_eq); exact rfl; exact rfl) | ((with_reducible apply does_len_sl); exact tyOk rfl; exact rfl; exact rfl) | ((with_reducible apply does_build); exact tyOk rfl; exact rfl; exact rfl; (focus repeat' (first | exact rfl | refine ⟨_, _, rfl, rfl, Nat.le_of_ble_eq_true rfl, rfl, ?_⟩)); exact rfl)) | ((with_reducible apply rp1); ((with_reducible apply does_box_ag); exact rfl; exact rfl)) | ((with_reducible apply aw_cond); exact rfl; (focus (intro hd; (cases hd; done))); (intro hd; clear hd)) | ((with_reducible apply aw_cond); exact rfl; rotate_left; (focus (intro hd; (cases hd; done))); (intro hd; clear hd)))
  (with_reducible apply ret_ok); (focus (repeat' (first | (with_reducible apply rv_nil) | (with_reducible apply rv_cons) | ((with_reducible apply rv_tmp); exact rfl)))); exact rfl; refine SubD.of_eq ?_
  rfl
set_option maxHeartbeats 2000000 in
theorem thing_col (cols : List Cl) (hl : cols.length ≤ 1000000) (n : ByteArray) : PC Tryd.prog 52 [.ag (Ex.col n).cs, colsD cols] (.sc (thF cols (.col n))) := by
  unfold Ex.cs thF
  refine pc_of_aw Tryd.func52 rfl (by kernel_rfl) mixed (by kernel_rfl) (by rw [Tryd.ntmps52]; exact Nat.le_of_ble_eq_true rfl) Tryd.results52 ?_
  repeat (first | (with_reducible first | apply aw_seq | apply aw_reg | apply rp_nil | apply ae_norm | apply aw_block | apply be_norm | apply aw_skip) | ((with_reducible apply rp); first | ((with_reducible apply does_move); (conv => lhs; whnf)) | ((with_reducible apply does_assign); (conv => lhs; whnf)) | ((with_reducible apply does_fieldAddr); exact tyOk rfl; exact rfl; exact rfl; decide; exact rfl) | ((with_reducible apply does_load_var); exact tyOk rfl; exact rfl; exact rfl; exact rfl; exact rfl) | ((with_reducible apply does_eq); exact rfl; exact rfl) | ((with_reducible apply does_len_map); exact tyOk rfl; exact rfl; exact rfl) | ((with_reducible apply does_len_sl); exact tyOk rfl; exact rfl; exact rfl)) | ((with_reducible apply rp1); ((with_reducible apply does_box_ag); exact rfl; exact rfl)) | ((with_reducible apply aw_cond); exact rfl; (focus (intro hd; (cases hd; done))); (intro hd; clear hd)))
  refine aw_loop (fun m s => ∃ k, k ≤ cols.length ∧ m = cols.length - k ∧ findI n k (cols.drop k) = findI n 0 cols ∧ s = ⟨[(1, .d (colsD cols)), (2, .px 2 0), (47, .d (colsD cols)), (48, .d (iD cols.length)), (49, .d (iD k))], [(2, .var 58 [.d (iD 2), .d (iD 0), .d (iD 0), .d (qD 0), .d (strD .empty), .d (strD n), .d (.sl 7 [])])]⟩) _ _ ?_ ⟨0, by omega, rfl, rfl, rfl⟩ ?_
  · refine forget_of [] (by repeat' (first | exact ks_nil | (refine ks_cons rfl (by exact SubA.refl _) ?_))) (by repeat' (first | exact trivial | exact rfl | refine And.intro ?_ ?_)) rfl (by repeat' (first | exact trivial | exact inB_px rfl | refine And.intro ?_ ?_)) (by repeat' (first | exact trivial | exact inB_px rfl | refine And.intro ?_ ?_))
  · rintro m s ⟨k, hk, rfl, he, rfl⟩
    repeat (first | (with_reducible first | apply aw_seq | apply aw_reg | apply rp_nil | apply ae_norm) | ((with_reducible apply rp); ((with_reducible apply does_lt); exact rfl; exact rfl)))
    refine aw_cond rfl (fun hd => ?_) (fun hd => ?_)
    · have hlt : k < cols.length := by simp at hd; omega
      clear hd
      obtain ⟨c, hc⟩ : ∃ c, cols[k]? = some c := ⟨_, List.getElem?_eq_getElem hlt⟩
      have hc2 : (cols.map Cl.cs)[k]? = some c.cs := by rw [List.getElem?_map, hc]; rfl
      rw [findI_drop hc] at he
      obtain ⟨cn, ck, cb⟩ := c
      unfold Cl.cs at hc2
      dsimp only at *
      by_cases hn : cn = n
      · subst hn
        rw [if_pos rfl] at he
        rw [← he]
        have h1 : (cn.toList == cn.toList) = true := beq_self_eq_true _
        repeat (first | (with_reducible first | apply aw_seq | apply aw_reg | apply rp_nil | apply ae_norm | apply aw_block | apply aw_ret | apply ae_ret | apply be_ret | apply re_ret | apply aw_skip) | ((with_reducible apply rp); first | (exact does_makeIface rfl rfl (by kernel_rfl)) | ((with_reducible apply does_move); (conv => lhs; whnf)) | ((with_reducible apply does_assign); (conv => lhs; whnf)) | ((with_reducible apply does_fieldAddr); exact tyOk rfl; exact rfl; exact rfl; decide; exact rfl) | ((with_reducible apply does_load_var); exact tyOk rfl; exact rfl; exact rfl; exact rfl; exact rfl) | ((with_reducible apply does_load_elem_whole); exact tyOk rfl; exact rfl; exact rfl; assumption; exact rfl) | ((with_reducible apply does_index_sl); exact tyOk rfl; exact rfl; exact tyOk rfl; exact rfl; exact rfl; exact rfl; exact rfl; (simp only [List.length_map, List.length_append, List.length_cons, List.length_nil] at *; omega)) | ((with_reducible apply does_seq); exact rfl; exact rfl) | ((with_reducible apply does_build); exact tyOk rfl; exact rfl; exact rfl; (focus repeat' (first | exact rfl | refine ⟨_, _, rfl, rfl, Nat.le_of_ble_eq_true rfl, rfl, ?_⟩)); exact rfl)) | ((with_reducible apply rp1); ((with_reducible apply does_alloc); exact tyOk rfl; exact rfl)) | ((with_reducible apply rpN); ((with_reducible apply does_store_whole); exact tyOk rfl; exact rfl; exact rfl; exact rfl; exact rfl; exact rfl)) | ((with_reducible apply aw_cond); exact rfl; rotate_left; (focus (intro hd; (exfalso; simp at hd; done))); (intro hd; clear hd)))
        (with_reducible apply ret_ok); (focus (repeat' (first | (with_reducible apply rv_nil) | (with_reducible apply rv_cons) | ((with_reducible apply rv_tmp); exact rfl)))); exact rfl; refine SubD.of_eq ?_
        rfl
      · rw [if_neg hn] at he
        have h1 : (cn.toList == n.toList) = false := beq_eq_false_iff_ne.2 fun h => hn (ba_eq h)
        repeat (first | (with_reducible first | apply aw_seq | apply aw_reg | apply rp_nil | apply ae_norm | apply aw_block | apply aw_skip) | ((with_reducible apply rp); first | ((with_reducible apply does_move); (conv => lhs; whnf)) | ((with_reducible apply does_assign); (conv => lhs; whnf)) | ((with_reducible apply does_fieldAddr); exact tyOk rfl; exact rfl; exact rfl; decide; exact rfl) | ((with_reducible apply does_load_var); exact tyOk rfl; exact rfl; exact rfl; exact rfl; exact rfl) | ((with_reducible apply does_load_elem_whole); exact tyOk rfl; exact rfl; exact rfl; assumption; exact rfl) | ((with_reducible apply does_index_sl); exact tyOk rfl; exact rfl; exact tyOk rfl; exact rfl; exact rfl; exact rfl; exact rfl; (simp only [List.length_map, List.length_append, List.length_cons, List.length_nil] at *; omega)) | ((with_reducible apply does_seq); exact rfl; exact rfl)) | ((with_reducible apply rp1); ((with_reducible apply does_alloc); exact tyOk rfl; exact rfl)) | ((with_reducible apply rpN); ((with_reducible apply does_store_whole); exact tyOk rfl; exact rfl; exact rfl; exact rfl; exact rfl; exact rfl)))
        refine aw_cond rfl (fun hd => absurd (h1.symm.trans hd) (by decide)) (fun hd => ?_)
        clear hd
        repeat (first | (with_reducible first | apply aw_reg | apply rp_nil | apply ae_norm | apply be_norm | apply aw_skip) | ((with_reducible apply rp); first | ((with_reducible apply does_move); (conv => lhs; whnf)) | ((with_reducible apply does_add); exact rfl; exact rfl; omega; omega)))
        refine ⟨_, _, ?_, ?_, k + 1, by omega, rfl, he, rfl⟩
        · omega
        · refine forget_of [] (by repeat' (first | exact ks_nil | (refine ks_cons rfl (by exact SubA.refl _) ?_))) (by repeat' (first | exact trivial | exact rfl | refine And.intro ?_ ?_)) rfl (by repeat' (first | exact trivial | exact inB_px rfl | refine And.intro ?_ ?_)) (by repeat' (first | exact trivial | exact inB_px rfl | refine And.intro ?_ ?_))
    · have hke : k = cols.length := by simp at hd; omega
      clear hd
      subst hke
      rw [List.drop_length] at he
      rw [← he]
      repeat (first | (with_reducible first | apply aw_seq | apply aw_reg | apply rp_nil | apply ae_norm | apply aw_exit | apply ae_exit | apply be_exit | apply aw_ret | apply re_ret) | ((with_reducible apply rp); first | (exact does_makeIface rfl rfl (by kernel_rfl)) | ((with_reducible apply does_assign); (conv => lhs; whnf)) | ((with_reducible apply does_zeroS); exact tyOk rfl; exact rfl; exact rfl)))
      (with_reducible apply ret_ok); (focus (repeat' (first | (with_reducible apply rv_nil) | (with_reducible apply rv_cons) | ((with_reducible apply rv_tmp); exact rfl)))); exact rfl; refine SubD.of_eq ?_
      rfl
theorem thingOf_pc (cols : List Cl) (hl : cols.length ≤ 1000000) : ∀ x : Ex, PC Tryd.prog 52 [.ag x.cs, colsD cols] (.sc (thF cols x))
  | .lit v => thing_lit cols v
  | .col n => thing_col cols hl n
  | .un op a => thing_un cols op a (thingOf_pc cols hl a)
  | .bi op a b => thing_bi cols op a b (thingOf_pc cols hl a) (thingOf_pc cols hl b)
end Go.Proofs.YtpaccaojgbfjdaaDoor

