/-
  chirograph/eval: what an expression made ready says of a row, as contracts. No condition but that the expression and the row may be.
-/
import Derived.Test.YtpaccaojgbfjdaaDoorZEv3
import Derived.Test.YtpaccaojgbfjdaaDoorZSomeP
namespace Go.Proofs.YtpaccaojgbfjdaaDoor
set_option linter.unusedSimpArgs false
set_option linter.unusedVariables false
open Go.RowKit
open Go.Lib

theorem findI_lt {n : ByteArray} : ∀ {cols : List Cl} {k i : Nat}, findI n k cols = some i → i < k + cols.length
  | c :: l, k, i, h => by
    unfold findI at h
    split at h
    · simp only [Option.some.injEq] at h; rw [List.length_cons]; omega
    · have := findI_lt h; rw [List.length_cons]; omega
/-- What a thing behind the interface says of a row. -/
structure OfP (th : Value) (row r : D) : Prop where
  is : ∃ (T : TypeId) (v : Value) (f : FuncId) (d0 : D), th = .iface T v ∧ (∀ (x a1 : Value) (w : World), (invoke (.fn (.method "chirograph/eval.of") #[]) #[.iface T x, a1]).run Tryd.prog w = .ok (.enter f #[x, a1]) w) ∧ (∀ I w, RepD I w d0 v) ∧ PC Tryd.prog f [d0, row] r
theorem inv_fixed (x a1 : Value) (w : World) : (invoke (.fn (.method "chirograph/eval.of") #[]) #[.iface 154 x, a1]).run Tryd.prog w = .ok (.enter 155 #[x, a1]) w := by kernel_rfl
theorem inv_place (x a1 : Value) (w : World) : (invoke (.fn (.method "chirograph/eval.of") #[]) #[.iface 156 x, a1]).run Tryd.prog w = .ok (.enter 156 #[x, a1]) w := by kernel_rfl
theorem inv_missing (x a1 : Value) (w : World) : (invoke (.fn (.method "chirograph/eval.of") #[]) #[.iface 158 x, a1]).run Tryd.prog w = .ok (.enter 157 #[x, a1]) w := by kernel_rfl
theorem inv_sole (x a1 : Value) (w : World) : (invoke (.fn (.method "chirograph/eval.of") #[]) #[.iface 150 x, a1]).run Tryd.prog w = .ok (.enter 131 #[x, a1]) w := by kernel_rfl
theorem inv_twin (x a1 : Value) (w : World) : (invoke (.fn (.method "chirograph/eval.of") #[]) #[.iface 152 x, a1]).run Tryd.prog w = .ok (.enter 136 #[x, a1]) w := by kernel_rfl
theorem repC_scs {I : Nat → Prop} {w : World} : ∀ {l : List Value}, (∀ v ∈ l, v.oneCell' = true) → RepC I w true (l.map .sc) l
  | [], _ => rfl
  | v :: l, h => ⟨v, l, rfl, fun _ => rfl, ⟨rfl, h v (by simp)⟩, repC_scs fun u hu => h u (by simp [hu])⟩
theorem repD_agg {I : Nat → Prop} {w : World} {l : List Value} (h : ∀ v ∈ l, v.oneCell' = true) : RepD I w (.ag (l.map .sc)) (.agg l.toArray) := ⟨l.toArray, rfl, by simpa using repC_scs h⟩
theorem eof_lit (cols : List Cl) (row : D) (v : Vl) : OfP (thF cols (.lit v)) row (tvD ⟨v, 0⟩) := by
  obtain ⟨k, n, b, t⟩ := v
  refine ⟨_, _, _, .ag [iD k, iD n, qD b, strD t], rfl, inv_fixed, fun I w => repD_agg (l := [.int .i64 k, .int .i64 n, .int .u64 (b : Int), .string t]) (by intro v hv; simp at hv; rcases hv with rfl | rfl | rfl | rfl <;> rfl), ?_⟩
  refine pc_of_aw Tryd.func155 rfl (by kernel_rfl) mixed (by kernel_rfl) (by rw [Tryd.ntmps155]; exact Nat.le_of_ble_eq_true rfl) Tryd.results155 ?_
  repeat (first | (with_reducible first | apply aw_seq | apply aw_reg | apply rp_nil | apply ae_norm | apply aw_ret | apply re_ret) | ((with_reducible apply rp); first | ((with_reducible apply does_assign); (conv => lhs; whnf)) | ((with_reducible apply does_fieldAddr); exact tyOk rfl; exact rfl; exact rfl; decide; exact rfl) | ((with_reducible apply does_load_row); exact tyOk rfl; exact rfl; exact rfl; exact rfl; exact Nat.le_of_ble_eq_true rfl; exact rfl)) | ((with_reducible apply rp1); first | ((with_reducible apply does_box_ag); exact rfl; exact rfl) | ((with_reducible apply does_alloc); exact tyOk rfl; exact rfl)) | ((with_reducible apply rpN); ((with_reducible apply does_store_whole); exact tyOk rfl; exact rfl; exact rfl; exact rfl; exact rfl; exact rfl)))
  (with_reducible apply ret_ok); (focus (repeat' (first | (with_reducible apply rv_nil) | (with_reducible apply rv_cons) | ((with_reducible apply rv_tmp); exact rfl) | ((with_reducible apply rv_rowd); exact rfl; exact rfl; exact tyOk rfl; exact rfl; exact rfl)))); exact rfl; refine SubD.of_eq ?_
  rfl
theorem of_place (i : Nat) (row : List Vl) (v : Vl) (hv : row[i]? = some v) (hr : row.length ≤ 1000000) : PC Tryd.prog 156 [.ag [iD i], valsD row] (tvD ⟨v, 0⟩) := by
  have hi : i < row.length := (List.getElem?_eq_some_iff.1 hv).1
  have hg : (row.map Vl.cs)[i]? = some v.cs := by rw [List.getElem?_map, hv]; rfl
  obtain ⟨k, n, b, t⟩ := v
  unfold Vl.cs at hg
  unfold tvD
  dsimp only at *
  refine pc_of_aw Tryd.func156 rfl (by kernel_rfl) mixed (by kernel_rfl) (by rw [Tryd.ntmps156]; exact Nat.le_of_ble_eq_true rfl) Tryd.results156 ?_
  repeat (first | (with_reducible first | apply aw_seq | apply aw_reg | apply rp_nil | apply ae_norm | apply aw_ret | apply re_ret) | ((with_reducible apply rp); first | ((with_reducible apply does_move); (conv => lhs; whnf)) | ((with_reducible apply does_assign); (conv => lhs; whnf)) | ((with_reducible apply does_fieldAddr); exact tyOk rfl; exact rfl; exact rfl; decide; exact rfl) | ((with_reducible apply does_load_var); exact tyOk rfl; exact rfl; exact rfl; exact rfl; exact rfl) | ((with_reducible apply does_load_elem_whole); exact tyOk rfl; exact rfl; exact rfl; assumption; exact rfl) | ((with_reducible apply does_index_sl); exact tyOk rfl; exact rfl; exact tyOk rfl; exact rfl; exact rfl; exact rfl; exact rfl; (simp only [List.length_map, List.length_append, List.length_cons, List.length_nil] at *; omega))) | ((with_reducible apply rp1); first | ((with_reducible apply does_box_ag); exact rfl; exact rfl) | ((with_reducible apply does_alloc); exact tyOk rfl; exact rfl)) | ((with_reducible apply rpN); ((with_reducible apply does_store_whole); exact tyOk rfl; exact rfl; exact rfl; exact rfl; exact rfl; exact rfl)))
  (with_reducible apply ret_ok); (focus (repeat' (first | (with_reducible apply rv_nil) | (with_reducible apply rv_cons) | ((with_reducible apply rv_tmp); exact rfl) | ((with_reducible apply rv_rowd); exact rfl; exact rfl; exact tyOk rfl; exact rfl; exact rfl)))); exact rfl; refine SubD.of_eq ?_
  rfl
theorem of_missing (row : D) : PC Tryd.prog 157 [.ag [], row] (tvD (.bad 5)) := by
  refine pc_of_aw Tryd.func157 rfl (by kernel_rfl) mixed (by kernel_rfl) (by rw [Tryd.ntmps157]; exact Nat.le_of_ble_eq_true rfl) Tryd.results157 ?_
  repeat (first | (with_reducible first | apply aw_seq | apply aw_reg | apply rp_nil | apply ae_norm | apply aw_ret | apply re_ret) | ((with_reducible apply rp); first | ((with_reducible apply does_assign); (conv => lhs; whnf)) | ((with_reducible apply does_zeroS); exact tyOk rfl; exact rfl; exact rfl)) | ((with_reducible apply rp1); first | ((with_reducible apply does_box_ag); exact rfl; exact rfl) | ((with_reducible apply does_alloc); exact tyOk rfl; exact rfl)) | ((with_reducible apply rpN); ((with_reducible apply does_store_whole); exact tyOk rfl; exact rfl; exact rfl; exact rfl; exact rfl; exact rfl)))
  (with_reducible apply ret_ok); (focus (repeat' (first | (with_reducible apply rv_nil) | (with_reducible apply rv_cons) | ((with_reducible apply rv_tmp); exact rfl) | ((with_reducible apply rv_rowd); exact rfl; exact rfl; exact tyOk rfl; exact rfl; exact rfl)))); exact rfl; refine SubD.of_eq ?_
  rfl
theorem of_sole (op : Nat) (hop : un1 op) (th : Value) (row : D) (t : Tv) (ht : Gd t.v) (h : OfP th row (tvD t)) : PC Tryd.prog 131 [.ag [iD op, .sc th], row] (tvD (if t.e = 0 then oneF op t.v else .bad t.e)) := by
  obtain ⟨T, v, f, d0, rfl, hi, hd, hp⟩ := h
  have o1 := one_pc op hop ht
  obtain ⟨⟨k, n, b, tx⟩, e⟩ := t
  generalize oneF op _ = r at *
  obtain ⟨⟨rk, rn, rb, rt⟩, re⟩ := r
  unfold tvD Vl.cs at *
  dsimp only at *
  clear ht hop
  by_cases he : e = 0
  · subst he
    rw [if_pos rfl]
    refine pc_of_aw Tryd.func131 rfl (by kernel_rfl) mixed (by kernel_rfl) (by rw [Tryd.ntmps131]; exact Nat.le_of_ble_eq_true rfl) Tryd.results131 ?_
    repeat (first | (with_reducible first | apply aw_seq | apply aw_reg | apply rp_nil | apply ae_norm | apply aw_ret | apply re_ret | apply aw_skip) | ((with_reducible apply rp); first | (exact does_invoke rfl hi hd rfl hp) | ((with_reducible apply does_call_flat); exact rfl; exact rfl; exact (o1); exact rfl) | ((with_reducible apply does_move); (conv => lhs; whnf)) | ((with_reducible apply does_assign); (conv => lhs; whnf)) | ((with_reducible apply does_fieldAddr); exact tyOk rfl; exact rfl; exact rfl; decide; exact rfl) | ((with_reducible apply does_load_var); exact tyOk rfl; exact rfl; exact rfl; exact rfl; exact rfl) | ((with_reducible apply does_load_row); exact tyOk rfl; exact rfl; exact rfl; exact rfl; exact Nat.le_of_ble_eq_true rfl; exact rfl) | ((with_reducible apply does_ne); exact rfl; exact rfl) | ((with_reducible apply does_extract); exact rfl; exact rfl)) | ((with_reducible apply rp1); first | ((with_reducible apply does_box_ag); exact rfl; exact rfl) | ((with_reducible apply does_alloc); exact tyOk rfl; exact rfl)) | ((with_reducible apply rpN); ((with_reducible apply does_store_whole); exact tyOk rfl; exact rfl; exact rfl; exact rfl; exact rfl; exact rfl)) | ((with_reducible apply aw_cond); exact rfl; (focus (intro hd; (cases hd; done))); (intro hd; clear hd)))
    (with_reducible apply ret_ok); (focus (repeat' (first | (with_reducible apply rv_nil) | (with_reducible apply rv_cons) | ((with_reducible apply rv_tmp); exact rfl) | ((with_reducible apply rv_rowd); exact rfl; exact rfl; exact tyOk rfl; exact rfl; exact rfl)))); exact rfl; refine SubD.of_eq ?_
    rfl
  · rw [if_neg he]
    refine pc_of_aw Tryd.func131 rfl (by kernel_rfl) mixed (by kernel_rfl) (by rw [Tryd.ntmps131]; exact Nat.le_of_ble_eq_true rfl) Tryd.results131 ?_
    repeat (first | (with_reducible first | apply aw_seq | apply aw_reg | apply rp_nil | apply ae_norm | apply aw_ret | apply ae_ret | apply re_ret) | ((with_reducible apply rp); first | (exact does_invoke rfl hi hd rfl hp) | ((with_reducible apply does_move); (conv => lhs; whnf)) | ((with_reducible apply does_assign); (conv => lhs; whnf)) | ((with_reducible apply does_fieldAddr); exact tyOk rfl; exact rfl; exact rfl; decide; exact rfl) | ((with_reducible apply does_load_var); exact tyOk rfl; exact rfl; exact rfl; exact rfl; exact rfl) | ((with_reducible apply does_ne); exact rfl; exact rfl) | ((with_reducible apply does_extract); exact rfl; exact rfl) | ((with_reducible apply does_zeroS); exact tyOk rfl; exact rfl; exact rfl)) | ((with_reducible apply rp1); first | ((with_reducible apply does_box_ag); exact rfl; exact rfl) | ((with_reducible apply does_alloc); exact tyOk rfl; exact rfl)) | ((with_reducible apply rpN); ((with_reducible apply does_store_whole); exact tyOk rfl; exact rfl; exact rfl; exact rfl; exact rfl; exact rfl)) | ((with_reducible apply aw_cond); exact rfl; rotate_left; (focus (intro hd; (exfalso; simp at hd; omega))); (intro hd; clear hd)))
    (with_reducible apply ret_ok); (focus (repeat' (first | (with_reducible apply rv_nil) | (with_reducible apply rv_cons) | ((with_reducible apply rv_tmp); exact rfl) | ((with_reducible apply rv_rowd); exact rfl; exact rfl; exact tyOk rfl; exact rfl; exact rfl)))); exact rfl; refine SubD.of_eq ?_
    rfl
set_option maxHeartbeats 2000000 in
theorem of_twin (op : Nat) (hop : bi2 op) (th th' : Value) (row : D) (t t' : Tv) (ht : Gd t.v) (ht' : Gd t'.v) (h : OfP th row (tvD t)) (h' : OfP th' row (tvD t')) :
    PC Tryd.prog 136 [.ag [iD op, .sc th, .sc th'], row] (tvD (if t.e = 0 then (if shortB op t.v = true then ⟨t.v, 0⟩ else if t'.e = 0 then twoF op t.v t'.v else .bad t'.e) else .bad t.e)) := by
  obtain ⟨T, v, f, d0, rfl, hi, hd, hp⟩ := h
  obtain ⟨T', v', f', d0', rfl, hi', hd', hp'⟩ := h'
  have o1 := two_pc op hop ht ht'
  have t0 : PC Tryd.prog 133 [iD 0] (.ag [iD 1, iD 0, qD 0, strD .empty]) := truth_pc 0 (.inl rfl)
  have t2 : PC Tryd.prog 133 [iD 2] (.ag [iD 1, iD 1, qD 0, strD .empty]) := truth_pc 2 (.inr (.inr rfl))
  by_cases he : t.e = 0
  · rw [if_pos he]
    by_cases hs : shortB op t.v = true
    · rw [if_pos hs]
      clear o1
      have hc : (op = 20 ∧ t.v.k ≠ 0) ∨ (op = 15 ∧ t.v = ⟨1, 0, 0, .empty⟩) ∨ (op = 16 ∧ t.v = ⟨1, 1, 0, .empty⟩) := by
        unfold shortB at hs
        simp only [Bool.or_eq_true, Bool.and_eq_true, beq_iff_eq, bne_iff_ne] at hs
        rcases hs with (hs | hs) | hs
        · exact .inl hs
        · obtain ⟨n, _, e⟩ := ht.bool_n hs.1.2
          have e2 := hs.2
          rw [e] at e2
          exact .inr (.inl ⟨hs.1.1, by rw [e]; exact congrArg (fun n => (⟨1, n, 0, .empty⟩ : Vl)) e2⟩)
        · obtain ⟨n, _, e⟩ := ht.bool_n hs.1.2
          have e2 := hs.2
          rw [e] at e2
          exact .inr (.inr ⟨hs.1.1, by rw [e]; exact congrArg (fun n => (⟨1, n, 0, .empty⟩ : Vl)) e2⟩)
      clear hs ht ht' hop
      have e15 : (((15 : Nat) : Int) == 15 && ((1 : Int) == 1 && ((0 : Int) == 0 && (((0 : Nat) : Int) == ((0 : Nat) : Int) && (ByteArray.empty.toList == ByteArray.empty.toList && true))))) = true := by simp
      have e16 : (((16 : Nat) : Int) == 16 && ((1 : Int) == 1 && ((1 : Int) == 1 && (((0 : Nat) : Int) == ((0 : Nat) : Int) && (ByteArray.empty.toList == ByteArray.empty.toList && true))))) = true := by simp
      obtain ⟨⟨k, n, b, tx⟩, e⟩ := t
      dsimp only at *
      subst he
      rcases hc with ⟨rfl, h0⟩ | ⟨rfl, h0⟩ | ⟨rfl, h0⟩
      · have c20 : (((20 : Nat) : Int) == 20 && k != 0) = true := by simp [h0]
        unfold tvD Vl.cs at *
        dsimp only at *
        refine pc_of_aw Tryd.func136 rfl (by kernel_rfl) mixed (by kernel_rfl) (by rw [Tryd.ntmps136]; exact Nat.le_of_ble_eq_true rfl) Tryd.results136 ?_
        repeat (first | (with_reducible first | apply aw_seq | apply aw_reg | apply rp_nil | apply ae_norm) | ((with_reducible apply rp); first | (exact does_invoke rfl hi hd rfl hp) | ((with_reducible apply does_move); (conv => lhs; whnf)) | ((with_reducible apply does_assign); (conv => lhs; whnf)) | ((with_reducible apply does_fieldAddr); exact tyOk rfl; exact rfl; exact rfl; decide; exact rfl) | ((with_reducible apply does_load_var); exact tyOk rfl; exact rfl; exact rfl; exact rfl; exact rfl) | ((with_reducible apply does_ne); exact rfl; exact rfl) | ((with_reducible apply does_extract); exact rfl; exact rfl)) | ((with_reducible apply rp1); first | ((with_reducible apply does_box_ag); exact rfl; exact rfl) | ((with_reducible apply does_alloc); exact tyOk rfl; exact rfl)) | ((with_reducible apply rpN); ((with_reducible apply does_store_whole); exact tyOk rfl; exact rfl; exact rfl; exact rfl; exact rfl; exact rfl)))
        refine aw_cond rfl (fun hd => absurd hd (by decide)) (fun _ => ?_)
        repeat (first | (with_reducible first | apply aw_seq | apply aw_reg | apply rp_nil | apply ae_norm | apply aw_block | apply aw_skip) | ((first | (with_reducible apply rp) | ((with_reducible apply rpG); exact rfl; exact gval_t rfl; (focus repeat' (first | exact trivial | exact fun h => h | refine And.intro ?_ ?_)); intro hgd; have hgd0 := hgd; (try simp only [decide_eq_true_eq, Bool.and_eq_true, Bool.not_eq_true', beq_iff_eq] at hgd))); first | ((with_reducible apply does_move); (conv => lhs; whnf)) | ((with_reducible apply does_assign); (conv => lhs; whnf)) | ((with_reducible apply does_and); exact rfl; exact rfl; exact rfl; exact fun h => h) | ((with_reducible apply does_fieldAddr); exact tyOk rfl; exact rfl; exact rfl; decide; exact rfl) | ((with_reducible apply does_load_var); exact tyOk rfl; exact rfl; exact rfl; exact rfl; exact rfl) | ((with_reducible apply does_eq); exact rfl; exact rfl) | ((with_reducible apply does_ne); exact rfl; exact rfl)))
        refine aw_cond rfl (fun _ => ?_) (fun hd => absurd (c20.symm.trans hd) (by decide))
        repeat (first | (with_reducible first | apply aw_seq | apply aw_reg | apply rp_nil | apply ae_norm | apply aw_ret | apply ae_ret | apply be_ret | apply re_ret) | ((with_reducible apply rp); first | ((with_reducible apply does_assign); (conv => lhs; whnf)) | ((with_reducible apply does_load_row); exact tyOk rfl; exact rfl; exact rfl; exact rfl; exact Nat.le_of_ble_eq_true rfl; exact rfl)) | ((with_reducible apply rpN); ((with_reducible apply does_store_whole); exact tyOk rfl; exact rfl; exact rfl; exact rfl; exact rfl; exact rfl)))
        (with_reducible apply ret_ok); (focus (repeat' (first | (with_reducible apply rv_nil) | (with_reducible apply rv_cons) | ((with_reducible apply rv_tmp); exact rfl) | ((with_reducible apply rv_rowd); exact rfl; exact rfl; exact tyOk rfl; exact rfl; exact rfl)))); exact rfl; refine SubD.of_eq ?_
        rfl
      · cases h0
        unfold tvD Vl.cs at *
        dsimp only at *
        refine pc_of_aw Tryd.func136 rfl (by kernel_rfl) mixed (by kernel_rfl) (by rw [Tryd.ntmps136]; exact Nat.le_of_ble_eq_true rfl) Tryd.results136 ?_
        repeat (first | (with_reducible first | apply aw_seq | apply aw_reg | apply rp_nil | apply ae_norm) | ((with_reducible apply rp); first | (exact does_invoke rfl hi hd rfl hp) | ((with_reducible apply does_move); (conv => lhs; whnf)) | ((with_reducible apply does_assign); (conv => lhs; whnf)) | ((with_reducible apply does_fieldAddr); exact tyOk rfl; exact rfl; exact rfl; decide; exact rfl) | ((with_reducible apply does_load_var); exact tyOk rfl; exact rfl; exact rfl; exact rfl; exact rfl) | ((with_reducible apply does_ne); exact rfl; exact rfl) | ((with_reducible apply does_extract); exact rfl; exact rfl)) | ((with_reducible apply rp1); first | ((with_reducible apply does_box_ag); exact rfl; exact rfl) | ((with_reducible apply does_alloc); exact tyOk rfl; exact rfl)) | ((with_reducible apply rpN); ((with_reducible apply does_store_whole); exact tyOk rfl; exact rfl; exact rfl; exact rfl; exact rfl; exact rfl)))
        refine aw_cond rfl (fun hd => absurd hd (by decide)) (fun _ => ?_)
        repeat (first | (with_reducible first | apply aw_seq | apply aw_reg | apply rp_nil | apply ae_norm | apply aw_block | apply aw_skip) | ((first | (with_reducible apply rp) | ((with_reducible apply rpG); exact rfl; exact gval_t rfl; (focus repeat' (first | exact trivial | exact fun h => h | refine And.intro ?_ ?_)); intro hgd; have hgd0 := hgd; (try simp only [decide_eq_true_eq, Bool.and_eq_true, Bool.not_eq_true', beq_iff_eq] at hgd))); first | ((with_reducible apply does_move); (conv => lhs; whnf)) | ((with_reducible apply does_assign); (conv => lhs; whnf)) | ((with_reducible apply does_and); exact rfl; exact rfl; exact rfl; exact fun h => h) | ((with_reducible apply does_fieldAddr); exact tyOk rfl; exact rfl; exact rfl; decide; exact rfl) | ((with_reducible apply does_load_var); exact tyOk rfl; exact rfl; exact rfl; exact rfl; exact rfl) | ((with_reducible apply does_eq); exact rfl; exact rfl) | ((with_reducible apply does_ne); exact rfl; exact rfl)))
        refine aw_cond rfl (fun hd => absurd hd (by decide)) (fun _ => ?_)
        repeat (first | (with_reducible first | apply aw_seq | apply ae_norm | apply aw_regD) | ((with_reducible apply dr_nil); (first | kernel_rfl | exact rfl)) | ((first | (with_reducible apply dr) | ((with_reducible apply drG); exact rfl; exact gval_t rfl; (focus repeat' (first | exact trivial | exact fun h => h | refine And.intro ?_ ?_)); intro hgd; have hgd0 := hgd; (try simp only [decide_eq_true_eq, Bool.and_eq_true, Bool.not_eq_true', beq_iff_eq] at hgd))); first | ((with_reducible apply does_call_flat); exact rfl; exact rfl; exact (t0); exact rfl) | ((with_reducible apply does_move); (conv => lhs; whnf)) | ((with_reducible apply does_assign); (conv => lhs; whnf)) | ((with_reducible apply does_and); exact rfl; exact rfl; exact rfl; exact fun h => h) | ((with_reducible apply does_fieldAddr); exact tyOk rfl; exact rfl; exact rfl; decide; exact rfl) | ((with_reducible apply does_load_var); exact tyOk rfl; exact rfl; exact rfl; exact rfl; exact rfl) | ((with_reducible apply does_load_row); exact tyOk rfl; exact rfl; exact rfl; exact rfl; exact Nat.le_of_ble_eq_true rfl; exact rfl) | ((with_reducible apply does_eq); exact rfl; exact rfl) | ((with_reducible apply does_eqS); exact rfl; exact rfl; exact tgOk rfl; exact rfl)))
        refine aw_cond rfl (fun _ => ?_) (fun hd => absurd (e15.symm.trans hd) (by decide))
        repeat (first | (with_reducible first | apply ae_norm | apply aw_skip))
        refine aw_cond rfl (fun _ => ?_) (fun hd => absurd (e15.symm.trans hd) (by decide))
        repeat (first | (with_reducible first | apply aw_seq | apply aw_reg | apply rp_nil | apply ae_norm | apply aw_ret | apply ae_ret | apply be_ret | apply re_ret) | ((with_reducible apply rp); first | ((with_reducible apply does_assign); (conv => lhs; whnf)) | ((with_reducible apply does_load_row); exact tyOk rfl; exact rfl; exact rfl; exact rfl; exact Nat.le_of_ble_eq_true rfl; exact rfl)) | ((with_reducible apply rpN); ((with_reducible apply does_store_whole); exact tyOk rfl; exact rfl; exact rfl; exact rfl; exact rfl; exact rfl)))
        (with_reducible apply ret_ok); (focus (repeat' (first | (with_reducible apply rv_nil) | (with_reducible apply rv_cons) | ((with_reducible apply rv_tmp); exact rfl) | ((with_reducible apply rv_rowd); exact rfl; exact rfl; exact tyOk rfl; exact rfl; exact rfl)))); exact rfl; refine SubD.of_eq ?_
        rfl
      · cases h0
        unfold tvD Vl.cs at *
        dsimp only at *
        refine pc_of_aw Tryd.func136 rfl (by kernel_rfl) mixed (by kernel_rfl) (by rw [Tryd.ntmps136]; exact Nat.le_of_ble_eq_true rfl) Tryd.results136 ?_
        repeat (first | (with_reducible first | apply aw_seq | apply aw_reg | apply rp_nil | apply ae_norm) | ((with_reducible apply rp); first | (exact does_invoke rfl hi hd rfl hp) | ((with_reducible apply does_move); (conv => lhs; whnf)) | ((with_reducible apply does_assign); (conv => lhs; whnf)) | ((with_reducible apply does_fieldAddr); exact tyOk rfl; exact rfl; exact rfl; decide; exact rfl) | ((with_reducible apply does_load_var); exact tyOk rfl; exact rfl; exact rfl; exact rfl; exact rfl) | ((with_reducible apply does_ne); exact rfl; exact rfl) | ((with_reducible apply does_extract); exact rfl; exact rfl)) | ((with_reducible apply rp1); first | ((with_reducible apply does_box_ag); exact rfl; exact rfl) | ((with_reducible apply does_alloc); exact tyOk rfl; exact rfl)) | ((with_reducible apply rpN); ((with_reducible apply does_store_whole); exact tyOk rfl; exact rfl; exact rfl; exact rfl; exact rfl; exact rfl)))
        refine aw_cond rfl (fun hd => absurd hd (by decide)) (fun _ => ?_)
        repeat (first | (with_reducible first | apply aw_seq | apply aw_reg | apply rp_nil | apply ae_norm | apply aw_block | apply aw_skip) | ((first | (with_reducible apply rp) | ((with_reducible apply rpG); exact rfl; exact gval_t rfl; (focus repeat' (first | exact trivial | exact fun h => h | refine And.intro ?_ ?_)); intro hgd; have hgd0 := hgd; (try simp only [decide_eq_true_eq, Bool.and_eq_true, Bool.not_eq_true', beq_iff_eq] at hgd))); first | ((with_reducible apply does_move); (conv => lhs; whnf)) | ((with_reducible apply does_assign); (conv => lhs; whnf)) | ((with_reducible apply does_and); exact rfl; exact rfl; exact rfl; exact fun h => h) | ((with_reducible apply does_fieldAddr); exact tyOk rfl; exact rfl; exact rfl; decide; exact rfl) | ((with_reducible apply does_load_var); exact tyOk rfl; exact rfl; exact rfl; exact rfl; exact rfl) | ((with_reducible apply does_eq); exact rfl; exact rfl) | ((with_reducible apply does_ne); exact rfl; exact rfl)))
        refine aw_cond rfl (fun hd => absurd hd (by decide)) (fun _ => ?_)
        repeat (first | (with_reducible first | apply aw_seq | apply ae_norm | apply aw_regD) | ((with_reducible apply dr_nil); (first | kernel_rfl | exact rfl)) | ((first | (with_reducible apply dr) | ((with_reducible apply drG); exact rfl; exact gval_t rfl; (focus repeat' (first | exact trivial | exact fun h => h | refine And.intro ?_ ?_)); intro hgd; have hgd0 := hgd; (try simp only [decide_eq_true_eq, Bool.and_eq_true, Bool.not_eq_true', beq_iff_eq] at hgd))); first | ((with_reducible apply does_call_flat); exact rfl; exact rfl; exact (t0); exact rfl) | ((with_reducible apply does_move); (conv => lhs; whnf)) | ((with_reducible apply does_assign); (conv => lhs; whnf)) | ((with_reducible apply does_and); exact rfl; exact rfl; exact rfl; exact fun h => h) | ((with_reducible apply does_fieldAddr); exact tyOk rfl; exact rfl; exact rfl; decide; exact rfl) | ((with_reducible apply does_load_var); exact tyOk rfl; exact rfl; exact rfl; exact rfl; exact rfl) | ((with_reducible apply does_load_row); exact tyOk rfl; exact rfl; exact rfl; exact rfl; exact Nat.le_of_ble_eq_true rfl; exact rfl) | ((with_reducible apply does_eq); exact rfl; exact rfl) | ((with_reducible apply does_eqS); exact rfl; exact rfl; exact tgOk rfl; exact rfl)))
        refine aw_cond rfl (fun hd => absurd hd (by simp)) (fun _ => ?_)
        repeat (first | (with_reducible first | apply ae_norm | apply aw_regD) | ((with_reducible apply dr_nil); (first | kernel_rfl | exact rfl)) | ((first | (with_reducible apply dr) | ((with_reducible apply drG); exact rfl; exact gval_t rfl; (focus repeat' (first | exact trivial | exact fun h => h | refine And.intro ?_ ?_)); intro hgd; have hgd0 := hgd; (try simp only [decide_eq_true_eq, Bool.and_eq_true, Bool.not_eq_true', beq_iff_eq] at hgd))); first | ((with_reducible apply does_call_flat); exact rfl; exact rfl; exact (t2); exact rfl) | ((with_reducible apply does_move); (conv => lhs; whnf)) | ((with_reducible apply does_assign); (conv => lhs; whnf)) | ((with_reducible apply does_and); exact rfl; exact rfl; exact rfl; exact fun h => h) | ((with_reducible apply does_fieldAddr); exact tyOk rfl; exact rfl; exact rfl; decide; exact rfl) | ((with_reducible apply does_load_var); exact tyOk rfl; exact rfl; exact rfl; exact rfl; exact rfl) | ((with_reducible apply does_load_row); exact tyOk rfl; exact rfl; exact rfl; exact rfl; exact Nat.le_of_ble_eq_true rfl; exact rfl) | ((with_reducible apply does_eq); exact rfl; exact rfl) | ((with_reducible apply does_eqS); exact rfl; exact rfl; exact tgOk rfl; exact rfl)))
        refine aw_cond rfl (fun _ => ?_) (fun hd => absurd (e16.symm.trans hd) (by decide))
        repeat (first | (with_reducible first | apply aw_seq | apply aw_reg | apply rp_nil | apply ae_norm | apply aw_ret | apply ae_ret | apply be_ret | apply re_ret) | ((with_reducible apply rp); first | ((with_reducible apply does_assign); (conv => lhs; whnf)) | ((with_reducible apply does_load_row); exact tyOk rfl; exact rfl; exact rfl; exact rfl; exact Nat.le_of_ble_eq_true rfl; exact rfl)) | ((with_reducible apply rpN); ((with_reducible apply does_store_whole); exact tyOk rfl; exact rfl; exact rfl; exact rfl; exact rfl; exact rfl)))
        (with_reducible apply ret_ok); (focus (repeat' (first | (with_reducible apply rv_nil) | (with_reducible apply rv_cons) | ((with_reducible apply rv_tmp); exact rfl) | ((with_reducible apply rv_rowd); exact rfl; exact rfl; exact tyOk rfl; exact rfl; exact rfl)))); exact rfl; refine SubD.of_eq ?_
        rfl
    · rw [if_neg hs]
      obtain ⟨⟨k, n, b, tx⟩, e⟩ := t
      dsimp only at *
      subst he
      have c20 : ((op : Int) == 20 && k != 0) = false := by
        rw [Bool.eq_false_iff]
        intro h
        simp only [Bool.and_eq_true, beq_iff_eq, bne_iff_ne] at h
        refine hs ?_
        unfold shortB
        have e1 : op = 20 := by omega
        simp [e1, h.2]
      have c15 : ((op : Int) == 15 && (k == 1 && (n == 0 && ((b : Int) == 0 && (tx.toList == ByteArray.empty.toList && true))))) = false := by
        rw [Bool.eq_false_iff]
        intro h
        simp only [Bool.and_eq_true, beq_iff_eq] at h
        refine hs ?_
        unfold shortB
        have e1 : op = 15 := by omega
        simp [e1, h.2.1, h.2.2.1]
      have c16 : ((op : Int) == 16 && (k == 1 && (n == 1 && ((b : Int) == 0 && (tx.toList == ByteArray.empty.toList && true))))) = false := by
        rw [Bool.eq_false_iff]
        intro h
        simp only [Bool.and_eq_true, beq_iff_eq] at h
        refine hs ?_
        unfold shortB
        have e1 : op = 16 := by omega
        simp [e1, h.2.1, h.2.2.1]
      clear hs ht ht' hop
      obtain ⟨⟨k', n', b', tx'⟩, e'⟩ := t'
      generalize twoF op _ _ = r at *
      obtain ⟨⟨rk, rn, rb, rt⟩, re⟩ := r
      unfold tvD Vl.cs at *
      dsimp only at *
      by_cases he' : e' = 0
      · subst he'
        rw [if_pos rfl]
        refine pc_of_aw Tryd.func136 rfl (by kernel_rfl) mixed (by kernel_rfl) (by rw [Tryd.ntmps136]; exact Nat.le_of_ble_eq_true rfl) Tryd.results136 ?_
        repeat (first | (with_reducible first | apply aw_seq | apply aw_reg | apply rp_nil | apply ae_norm) | ((with_reducible apply rp); first | (exact does_invoke rfl hi hd rfl hp) | ((with_reducible apply does_move); (conv => lhs; whnf)) | ((with_reducible apply does_assign); (conv => lhs; whnf)) | ((with_reducible apply does_fieldAddr); exact tyOk rfl; exact rfl; exact rfl; decide; exact rfl) | ((with_reducible apply does_load_var); exact tyOk rfl; exact rfl; exact rfl; exact rfl; exact rfl) | ((with_reducible apply does_ne); exact rfl; exact rfl) | ((with_reducible apply does_extract); exact rfl; exact rfl)) | ((with_reducible apply rp1); first | ((with_reducible apply does_box_ag); exact rfl; exact rfl) | ((with_reducible apply does_alloc); exact tyOk rfl; exact rfl)) | ((with_reducible apply rpN); ((with_reducible apply does_store_whole); exact tyOk rfl; exact rfl; exact rfl; exact rfl; exact rfl; exact rfl)))
        refine aw_cond rfl (fun hd => absurd hd (by decide)) (fun _ => ?_)
        repeat (first | (with_reducible first | apply aw_seq | apply aw_reg | apply rp_nil | apply ae_norm | apply aw_block | apply aw_skip) | ((first | (with_reducible apply rp) | ((with_reducible apply rpG); exact rfl; exact gval_t rfl; (focus repeat' (first | exact trivial | exact fun h => h | refine And.intro ?_ ?_)); intro hgd; have hgd0 := hgd; (try simp only [decide_eq_true_eq, Bool.and_eq_true, Bool.not_eq_true', beq_iff_eq] at hgd))); first | ((with_reducible apply does_move); (conv => lhs; whnf)) | ((with_reducible apply does_assign); (conv => lhs; whnf)) | ((with_reducible apply does_and); exact rfl; exact rfl; exact rfl; exact fun h => h) | ((with_reducible apply does_fieldAddr); exact tyOk rfl; exact rfl; exact rfl; decide; exact rfl) | ((with_reducible apply does_load_var); exact tyOk rfl; exact rfl; exact rfl; exact rfl; exact rfl) | ((with_reducible apply does_eq); exact rfl; exact rfl) | ((with_reducible apply does_ne); exact rfl; exact rfl)))
        refine aw_cond rfl (fun hd => absurd (c20.symm.trans hd) (by decide)) (fun _ => ?_)
        repeat (first | (with_reducible first | apply aw_seq | apply ae_norm | apply aw_regD) | ((with_reducible apply dr_nil); (first | kernel_rfl | exact rfl)) | ((first | (with_reducible apply dr) | ((with_reducible apply drG); exact rfl; exact gval_t rfl; (focus repeat' (first | exact trivial | exact fun h => h | refine And.intro ?_ ?_)); intro hgd; have hgd0 := hgd; (try simp only [decide_eq_true_eq, Bool.and_eq_true, Bool.not_eq_true', beq_iff_eq] at hgd))); first | ((with_reducible apply does_call_flat); exact rfl; exact rfl; exact (t0); exact rfl) | ((with_reducible apply does_move); (conv => lhs; whnf)) | ((with_reducible apply does_assign); (conv => lhs; whnf)) | ((with_reducible apply does_and); exact rfl; exact rfl; exact rfl; exact fun h => h) | ((with_reducible apply does_fieldAddr); exact tyOk rfl; exact rfl; exact rfl; decide; exact rfl) | ((with_reducible apply does_load_var); exact tyOk rfl; exact rfl; exact rfl; exact rfl; exact rfl) | ((with_reducible apply does_load_row); exact tyOk rfl; exact rfl; exact rfl; exact rfl; exact Nat.le_of_ble_eq_true rfl; exact rfl) | ((with_reducible apply does_eq); exact rfl; exact rfl) | ((with_reducible apply does_eqS); exact rfl; exact rfl; exact tgOk rfl; exact rfl)))
        refine aw_cond rfl (fun hd => absurd (c15.symm.trans hd) (by decide)) (fun _ => ?_)
        repeat (first | (with_reducible first | apply ae_norm | apply aw_regD) | ((with_reducible apply dr_nil); (first | kernel_rfl | exact rfl)) | ((first | (with_reducible apply dr) | ((with_reducible apply drG); exact rfl; exact gval_t rfl; (focus repeat' (first | exact trivial | exact fun h => h | refine And.intro ?_ ?_)); intro hgd; have hgd0 := hgd; (try simp only [decide_eq_true_eq, Bool.and_eq_true, Bool.not_eq_true', beq_iff_eq] at hgd))); first | ((with_reducible apply does_call_flat); exact rfl; exact rfl; exact (t2); exact rfl) | ((with_reducible apply does_move); (conv => lhs; whnf)) | ((with_reducible apply does_assign); (conv => lhs; whnf)) | ((with_reducible apply does_and); exact rfl; exact rfl; exact rfl; exact fun h => h) | ((with_reducible apply does_fieldAddr); exact tyOk rfl; exact rfl; exact rfl; decide; exact rfl) | ((with_reducible apply does_load_var); exact tyOk rfl; exact rfl; exact rfl; exact rfl; exact rfl) | ((with_reducible apply does_load_row); exact tyOk rfl; exact rfl; exact rfl; exact rfl; exact Nat.le_of_ble_eq_true rfl; exact rfl) | ((with_reducible apply does_eq); exact rfl; exact rfl) | ((with_reducible apply does_eqS); exact rfl; exact rfl; exact tgOk rfl; exact rfl)))
        refine aw_cond rfl (fun hd => absurd (c16.symm.trans hd) (by decide)) (fun _ => ?_)
        repeat (first | (with_reducible first | apply aw_seq | apply aw_reg | apply rp_nil | apply ae_norm | apply be_norm | apply aw_skip) | ((with_reducible apply rp); first | (exact does_invoke rfl hi' hd' rfl hp') | ((with_reducible apply does_move); (conv => lhs; whnf)) | ((with_reducible apply does_assign); (conv => lhs; whnf)) | ((with_reducible apply does_fieldAddr); exact tyOk rfl; exact rfl; exact rfl; decide; exact rfl) | ((with_reducible apply does_load_var); exact tyOk rfl; exact rfl; exact rfl; exact rfl; exact rfl) | ((with_reducible apply does_ne); exact rfl; exact rfl) | ((with_reducible apply does_extract); exact rfl; exact rfl)) | ((with_reducible apply rp1); ((with_reducible apply does_alloc); exact tyOk rfl; exact rfl)) | ((with_reducible apply rpN); ((with_reducible apply does_store_whole); exact tyOk rfl; exact rfl; exact rfl; exact rfl; exact rfl; exact rfl)))
        refine aw_cond rfl (fun hd => absurd hd (by decide)) (fun _ => ?_)
        repeat (first | (with_reducible first | apply aw_seq | apply aw_reg | apply rp_nil | apply ae_norm | apply aw_ret | apply re_ret | apply aw_skip) | ((with_reducible apply rp); first | ((with_reducible apply does_call_flat); exact rfl; exact rfl; exact (o1); exact rfl) | ((with_reducible apply does_assign); (conv => lhs; whnf)) | ((with_reducible apply does_fieldAddr); exact tyOk rfl; exact rfl; exact rfl; decide; exact rfl) | ((with_reducible apply does_load_var); exact tyOk rfl; exact rfl; exact rfl; exact rfl; exact rfl) | ((with_reducible apply does_load_row); exact tyOk rfl; exact rfl; exact rfl; exact rfl; exact Nat.le_of_ble_eq_true rfl; exact rfl) | ((with_reducible apply does_extract); exact rfl; exact rfl)) | ((with_reducible apply rpN); ((with_reducible apply does_store_whole); exact tyOk rfl; exact rfl; exact rfl; exact rfl; exact rfl; exact rfl)))
        (with_reducible apply ret_ok); (focus (repeat' (first | (with_reducible apply rv_nil) | (with_reducible apply rv_cons) | ((with_reducible apply rv_tmp); exact rfl) | ((with_reducible apply rv_rowd); exact rfl; exact rfl; exact tyOk rfl; exact rfl; exact rfl)))); exact rfl; refine SubD.of_eq ?_
        rfl
      · rw [if_neg he']
        have hne : ((e' : Int) != 0) = true := bne_iff_ne.2 (by omega)
        refine pc_of_aw Tryd.func136 rfl (by kernel_rfl) mixed (by kernel_rfl) (by rw [Tryd.ntmps136]; exact Nat.le_of_ble_eq_true rfl) Tryd.results136 ?_
        repeat (first | (with_reducible first | apply aw_seq | apply aw_reg | apply rp_nil | apply ae_norm) | ((with_reducible apply rp); first | (exact does_invoke rfl hi hd rfl hp) | ((with_reducible apply does_move); (conv => lhs; whnf)) | ((with_reducible apply does_assign); (conv => lhs; whnf)) | ((with_reducible apply does_fieldAddr); exact tyOk rfl; exact rfl; exact rfl; decide; exact rfl) | ((with_reducible apply does_load_var); exact tyOk rfl; exact rfl; exact rfl; exact rfl; exact rfl) | ((with_reducible apply does_ne); exact rfl; exact rfl) | ((with_reducible apply does_extract); exact rfl; exact rfl)) | ((with_reducible apply rp1); first | ((with_reducible apply does_box_ag); exact rfl; exact rfl) | ((with_reducible apply does_alloc); exact tyOk rfl; exact rfl)) | ((with_reducible apply rpN); ((with_reducible apply does_store_whole); exact tyOk rfl; exact rfl; exact rfl; exact rfl; exact rfl; exact rfl)))
        refine aw_cond rfl (fun hd => absurd hd (by decide)) (fun _ => ?_)
        repeat (first | (with_reducible first | apply aw_seq | apply aw_reg | apply rp_nil | apply ae_norm | apply aw_block | apply aw_skip) | ((first | (with_reducible apply rp) | ((with_reducible apply rpG); exact rfl; exact gval_t rfl; (focus repeat' (first | exact trivial | exact fun h => h | refine And.intro ?_ ?_)); intro hgd; have hgd0 := hgd; (try simp only [decide_eq_true_eq, Bool.and_eq_true, Bool.not_eq_true', beq_iff_eq] at hgd))); first | ((with_reducible apply does_move); (conv => lhs; whnf)) | ((with_reducible apply does_assign); (conv => lhs; whnf)) | ((with_reducible apply does_and); exact rfl; exact rfl; exact rfl; exact fun h => h) | ((with_reducible apply does_fieldAddr); exact tyOk rfl; exact rfl; exact rfl; decide; exact rfl) | ((with_reducible apply does_load_var); exact tyOk rfl; exact rfl; exact rfl; exact rfl; exact rfl) | ((with_reducible apply does_eq); exact rfl; exact rfl) | ((with_reducible apply does_ne); exact rfl; exact rfl)))
        refine aw_cond rfl (fun hd => absurd (c20.symm.trans hd) (by decide)) (fun _ => ?_)
        repeat (first | (with_reducible first | apply aw_seq | apply ae_norm | apply aw_regD) | ((with_reducible apply dr_nil); (first | kernel_rfl | exact rfl)) | ((first | (with_reducible apply dr) | ((with_reducible apply drG); exact rfl; exact gval_t rfl; (focus repeat' (first | exact trivial | exact fun h => h | refine And.intro ?_ ?_)); intro hgd; have hgd0 := hgd; (try simp only [decide_eq_true_eq, Bool.and_eq_true, Bool.not_eq_true', beq_iff_eq] at hgd))); first | ((with_reducible apply does_call_flat); exact rfl; exact rfl; exact (t0); exact rfl) | ((with_reducible apply does_move); (conv => lhs; whnf)) | ((with_reducible apply does_assign); (conv => lhs; whnf)) | ((with_reducible apply does_and); exact rfl; exact rfl; exact rfl; exact fun h => h) | ((with_reducible apply does_fieldAddr); exact tyOk rfl; exact rfl; exact rfl; decide; exact rfl) | ((with_reducible apply does_load_var); exact tyOk rfl; exact rfl; exact rfl; exact rfl; exact rfl) | ((with_reducible apply does_load_row); exact tyOk rfl; exact rfl; exact rfl; exact rfl; exact Nat.le_of_ble_eq_true rfl; exact rfl) | ((with_reducible apply does_eq); exact rfl; exact rfl) | ((with_reducible apply does_eqS); exact rfl; exact rfl; exact tgOk rfl; exact rfl)))
        refine aw_cond rfl (fun hd => absurd (c15.symm.trans hd) (by decide)) (fun _ => ?_)
        repeat (first | (with_reducible first | apply ae_norm | apply aw_regD) | ((with_reducible apply dr_nil); (first | kernel_rfl | exact rfl)) | ((first | (with_reducible apply dr) | ((with_reducible apply drG); exact rfl; exact gval_t rfl; (focus repeat' (first | exact trivial | exact fun h => h | refine And.intro ?_ ?_)); intro hgd; have hgd0 := hgd; (try simp only [decide_eq_true_eq, Bool.and_eq_true, Bool.not_eq_true', beq_iff_eq] at hgd))); first | ((with_reducible apply does_call_flat); exact rfl; exact rfl; exact (t2); exact rfl) | ((with_reducible apply does_move); (conv => lhs; whnf)) | ((with_reducible apply does_assign); (conv => lhs; whnf)) | ((with_reducible apply does_and); exact rfl; exact rfl; exact rfl; exact fun h => h) | ((with_reducible apply does_fieldAddr); exact tyOk rfl; exact rfl; exact rfl; decide; exact rfl) | ((with_reducible apply does_load_var); exact tyOk rfl; exact rfl; exact rfl; exact rfl; exact rfl) | ((with_reducible apply does_load_row); exact tyOk rfl; exact rfl; exact rfl; exact rfl; exact Nat.le_of_ble_eq_true rfl; exact rfl) | ((with_reducible apply does_eq); exact rfl; exact rfl) | ((with_reducible apply does_eqS); exact rfl; exact rfl; exact tgOk rfl; exact rfl)))
        refine aw_cond rfl (fun hd => absurd (c16.symm.trans hd) (by decide)) (fun _ => ?_)
        repeat (first | (with_reducible first | apply aw_seq | apply aw_reg | apply rp_nil | apply ae_norm | apply be_norm | apply aw_skip) | ((with_reducible apply rp); first | (exact does_invoke rfl hi' hd' rfl hp') | ((with_reducible apply does_move); (conv => lhs; whnf)) | ((with_reducible apply does_assign); (conv => lhs; whnf)) | ((with_reducible apply does_fieldAddr); exact tyOk rfl; exact rfl; exact rfl; decide; exact rfl) | ((with_reducible apply does_load_var); exact tyOk rfl; exact rfl; exact rfl; exact rfl; exact rfl) | ((with_reducible apply does_ne); exact rfl; exact rfl) | ((with_reducible apply does_extract); exact rfl; exact rfl)) | ((with_reducible apply rp1); ((with_reducible apply does_alloc); exact tyOk rfl; exact rfl)) | ((with_reducible apply rpN); ((with_reducible apply does_store_whole); exact tyOk rfl; exact rfl; exact rfl; exact rfl; exact rfl; exact rfl)))
        refine aw_cond rfl (fun _ => ?_) (fun hd => absurd (hne.symm.trans hd) (by decide))
        repeat (first | (with_reducible first | apply aw_seq | apply aw_reg | apply rp_nil | apply ae_norm | apply aw_ret | apply ae_ret | apply re_ret) | ((with_reducible apply rp); first | ((with_reducible apply does_move); (conv => lhs; whnf)) | ((with_reducible apply does_assign); (conv => lhs; whnf)) | ((with_reducible apply does_zeroS); exact tyOk rfl; exact rfl; exact rfl)) | ((with_reducible apply rpN); ((with_reducible apply does_store_whole); exact tyOk rfl; exact rfl; exact rfl; exact rfl; exact rfl; exact rfl)))
        (with_reducible apply ret_ok); (focus (repeat' (first | (with_reducible apply rv_nil) | (with_reducible apply rv_cons) | ((with_reducible apply rv_tmp); exact rfl) | ((with_reducible apply rv_rowd); exact rfl; exact rfl; exact tyOk rfl; exact rfl; exact rfl)))); exact rfl; refine SubD.of_eq ?_
        rfl
  · rw [if_neg he]
    obtain ⟨⟨k, n, b, tx⟩, e⟩ := t
    unfold tvD Vl.cs at *
    dsimp only at *
    clear o1 ht ht' hop
    refine pc_of_aw Tryd.func136 rfl (by kernel_rfl) mixed (by kernel_rfl) (by rw [Tryd.ntmps136]; exact Nat.le_of_ble_eq_true rfl) Tryd.results136 ?_
    repeat (first | (with_reducible first | apply aw_seq | apply aw_reg | apply rp_nil | apply ae_norm | apply aw_ret | apply ae_ret | apply re_ret) | ((with_reducible apply rp); first | (exact does_invoke rfl hi hd rfl hp) | ((with_reducible apply does_move); (conv => lhs; whnf)) | ((with_reducible apply does_assign); (conv => lhs; whnf)) | ((with_reducible apply does_fieldAddr); exact tyOk rfl; exact rfl; exact rfl; decide; exact rfl) | ((with_reducible apply does_load_var); exact tyOk rfl; exact rfl; exact rfl; exact rfl; exact rfl) | ((with_reducible apply does_ne); exact rfl; exact rfl) | ((with_reducible apply does_extract); exact rfl; exact rfl) | ((with_reducible apply does_zeroS); exact tyOk rfl; exact rfl; exact rfl)) | ((with_reducible apply rp1); first | ((with_reducible apply does_box_ag); exact rfl; exact rfl) | ((with_reducible apply does_alloc); exact tyOk rfl; exact rfl)) | ((with_reducible apply rpN); ((with_reducible apply does_store_whole); exact tyOk rfl; exact rfl; exact rfl; exact rfl; exact rfl; exact rfl)) | ((with_reducible apply aw_cond); exact rfl; rotate_left; (focus (intro hd; (exfalso; simp at hd; omega))); (intro hd; clear hd)))
    (with_reducible apply ret_ok); (focus (repeat' (first | (with_reducible apply rv_nil) | (with_reducible apply rv_cons) | ((with_reducible apply rv_tmp); exact rfl) | ((with_reducible apply rv_rowd); exact rfl; exact rfl; exact tyOk rfl; exact rfl; exact rfl)))); exact rfl; refine SubD.of_eq ?_
    rfl
theorem eof_pc (cols : List Cl) (row : List Vl) (hl : row.length = cols.length) (h5 : row.length ≤ 1000000) (hr : ∀ v ∈ row, Gd v) : ∀ x : Ex, x.ok → OfP (thF cols x) (valsD row) (tvD (evF cols row x))
  | .lit v, _ => eof_lit cols (valsD row) v
  | .col n, _ => by
    unfold thF evF
    cases hf : findI n 0 cols with
    | none => exact ⟨_, _, _, .ag [], rfl, inv_missing, fun I w => repD_agg (l := []) (by intro v hv; cases hv), of_missing _⟩
    | some i =>
      have hi := findI_lt hf
      obtain ⟨v, hv⟩ : ∃ v, row[i]? = some v := ⟨_, List.getElem?_eq_getElem (by omega)⟩
      dsimp only
      rw [hv]
      exact ⟨_, _, _, .ag [iD i], rfl, inv_place, fun I w => repD_agg (l := [.int .i64 (i : Int)]) (by intro v hv; simp at hv; subst hv; rfl), of_place i row v hv h5⟩
  | .un op a, h => ⟨_, _, _, .ag [iD op, .sc (thF cols a)], rfl, inv_sole, fun I w => repD_agg (l := [.int .i64 (op : Int), thF cols a]) (by intro v hv; simp at hv; rcases hv with rfl | rfl; rfl; exact thF_one cols a),
      of_sole op h.1 _ _ _ (evF_gd hr h.2) (eof_pc cols row hl h5 hr a h.2)⟩
  | .bi op a b, h => ⟨_, _, _, .ag [iD op, .sc (thF cols a), .sc (thF cols b)], rfl, inv_twin, fun I w => repD_agg (l := [.int .i64 (op : Int), thF cols a, thF cols b]) (by intro v hv; simp at hv; rcases hv with rfl | rfl | rfl; rfl; exact thF_one cols a; exact thF_one cols b),
      of_twin op h.1 _ _ _ _ _ (evF_gd hr h.2.1) (evF_gd hr h.2.2) (eof_pc cols row hl h5 hr a h.2.1) (eof_pc cols row hl h5 hr b h.2.2)⟩
end Go.Proofs.YtpaccaojgbfjdaaDoor

