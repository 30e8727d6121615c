/-
  chirographkeep: one, both, sameRow, sameRows, tableTells as contracts. No condition.
-/
import Derived.Test.YtpaccaojgbfjdaaDoorZTbP
import Derived.Test.YtpaccaojgbfjdaaDoorZTb6
import Derived.Test.YtpaccaojgbfjdaaDoorZHeapC
namespace Go.Proofs.YtpaccaojgbfjdaaDoor
set_option linter.unusedSimpArgs false
set_option linter.unusedVariables false
open Go.RowKit

theorem one0_pc : PC Tryd.prog 15 [iD 0] (.ag [bD true, bD false]) := by
  refine pc_of_aw Tryd.func15 rfl (by kernel_rfl) mixed (by kernel_rfl) (by rw [Tryd.ntmps15]; exact Nat.le_of_ble_eq_true rfl) Tryd.results15 ?_
  repeat (first | (with_reducible first | apply aw_seq | apply aw_reg | apply rp_nil | apply ae_norm | apply aw_ret | apply re_ret) | ((with_reducible apply rp); first | ((with_reducible apply does_move); (conv => lhs; whnf)) | ((with_reducible apply does_load_row); exact tyOk rfl; exact rfl; exact rfl; exact rfl; exact Nat.le_of_ble_eq_true rfl; exact rfl) | ((with_reducible apply does_index_arr); exact tyOk rfl; exact rfl; exact rfl; exact rfl; (dsimp only; omega); decide; exact rfl)) | ((with_reducible apply rp1); ((with_reducible apply does_alloc); exact tyOk rfl; exact rfl)) | ((with_reducible apply rpN); first | ((with_reducible apply does_store); exact tyOk rfl; exact rfl; exact rfl; (conv => lhs; whnf); exact rfl; exact rfl; exact Nat.le_of_ble_eq_true rfl) | ((with_reducible apply does_store_whole); exact tyOk rfl; exact rfl; exact rfl; exact rfl; exact rfl; exact rfl)))
  (with_reducible apply ret_ok); (focus (repeat' (first | (with_reducible apply rv_nil) | (with_reducible apply rv_cons) | ((with_reducible apply rv_rowd); exact rfl; exact rfl; exact tyOk rfl; exact rfl; exact rfl)))); exact rfl; refine SubD.of_eq ?_
  rfl
theorem one1_pc : PC Tryd.prog 15 [iD 1] (.ag [bD false, bD true]) := by
  refine pc_of_aw Tryd.func15 rfl (by kernel_rfl) mixed (by kernel_rfl) (by rw [Tryd.ntmps15]; exact Nat.le_of_ble_eq_true rfl) Tryd.results15 ?_
  repeat (first | (with_reducible first | apply aw_seq | apply aw_reg | apply rp_nil | apply ae_norm | apply aw_ret | apply re_ret) | ((with_reducible apply rp); first | ((with_reducible apply does_move); (conv => lhs; whnf)) | ((with_reducible apply does_load_row); exact tyOk rfl; exact rfl; exact rfl; exact rfl; exact Nat.le_of_ble_eq_true rfl; exact rfl) | ((with_reducible apply does_index_arr); exact tyOk rfl; exact rfl; exact rfl; exact rfl; (dsimp only; omega); decide; exact rfl)) | ((with_reducible apply rp1); ((with_reducible apply does_alloc); exact tyOk rfl; exact rfl)) | ((with_reducible apply rpN); first | ((with_reducible apply does_store); exact tyOk rfl; exact rfl; exact rfl; (conv => lhs; whnf); exact rfl; exact rfl; exact Nat.le_of_ble_eq_true rfl) | ((with_reducible apply does_store_whole); exact tyOk rfl; exact rfl; exact rfl; exact rfl; exact rfl; exact rfl)))
  (with_reducible apply ret_ok); (focus (repeat' (first | (with_reducible apply rv_nil) | (with_reducible apply rv_cons) | ((with_reducible apply rv_rowd); exact rfl; exact rfl; exact tyOk rfl; exact rfl; exact rfl)))); exact rfl; refine SubD.of_eq ?_
  rfl
theorem bothD_pc : PC Tryd.prog 31 [] (.ag [bD true, bD true]) := by
  refine pc_of_aw Tryd.func31 rfl (by kernel_rfl) mixed (by kernel_rfl) (by rw [Tryd.ntmps31]; exact Nat.le_of_ble_eq_true rfl) Tryd.results31 ?_
  repeat (first | (with_reducible first | apply aw_seq | apply aw_reg | apply rp_nil | apply ae_norm | apply aw_ret | apply re_ret) | ((with_reducible apply rp); ((with_reducible apply does_build_full); exact tyOk rfl; exact rfl; (focus repeat' (first | exact pv_nil | (apply pv_cons; (conv => lhs; whnf); exact rfl))); exact rfl; exact rfl)) | ((with_reducible apply rp1); ((with_reducible apply does_alloc); exact tyOk rfl; exact rfl)) | ((with_reducible apply rpN); ((with_reducible apply does_store_whole); exact tyOk rfl; exact rfl; exact rfl; exact rfl; exact rfl; exact rfl)))
  (with_reducible apply ret_ok); (focus (repeat' (first | (with_reducible apply rv_nil) | (with_reducible apply rv_cons) | ((with_reducible apply rv_rowd); exact rfl; exact rfl; exact tyOk rfl; exact rfl; exact rfl)))); exact rfl; refine SubD.of_eq ?_
  rfl
set_option maxHeartbeats 2000000 in
theorem sameRow_pc (l : List Vl) (hl : l.length ≤ 4611686018427387904) : PC Tryd.prog 45 [valsD l, valsD l] (bD true) := by
  refine pc_of_aw Tryd.func45 rfl (by kernel_rfl) mixed (by kernel_rfl) (by rw [Tryd.ntmps45]; exact Nat.le_of_ble_eq_true rfl) Tryd.results45 ?_
  repeat (first | (with_reducible first | apply aw_seq | apply aw_reg | apply rp_nil | apply ae_norm) | ((with_reducible apply rp); first | ((with_reducible apply does_move); (conv => lhs; whnf)) | ((with_reducible apply does_assign); (conv => lhs; whnf)) | ((with_reducible apply does_ne); exact rfl; exact rfl) | ((with_reducible apply does_len_map); exact tyOk rfl; exact rfl; exact rfl)))
  refine aw_cond rfl (fun hd => absurd hd (by simp)) (fun hd => ?_)
  clear hd
  repeat (first | (with_reducible first | apply aw_seq | apply aw_reg | apply rp_nil | apply ae_norm | apply aw_block | apply aw_skip) | ((with_reducible apply rp); first | ((with_reducible apply does_move); (conv => lhs; whnf)) | ((with_reducible apply does_len_map); exact tyOk rfl; exact rfl; exact rfl)))
  refine aw_loop (fun m s => ∃ k, k ≤ l.length ∧ m = l.length - k ∧ s = ⟨[(0, .d (valsD l)), (1, .d (valsD l)), (12, .d (iD l.length)), (13, .d (iD k))], []⟩) _ _ ?_ ⟨0, by omega, rfl, rfl⟩ ?_
  · refine forget_of [] (by repeat' (first | exact ks_nil | (refine ks_cons rfl (by exact SubA.refl _) ?_))) (by repeat' exact trivial) rfl (by repeat' (first | exact trivial | refine And.intro ?_ ?_)) (by repeat' (first | exact trivial | refine And.intro ?_ ?_))
  · rintro m s ⟨k, hk, rfl, rfl⟩
    repeat (first | (with_reducible first | apply aw_seq | apply aw_reg | apply rp_nil | apply ae_norm) | ((with_reducible apply rp); ((with_reducible apply does_lt); exact rfl; exact rfl)))
    refine aw_cond rfl (fun hd => ?_) (fun hd => ?_)
    · have hlt : k < l.length := by simp at hd; omega
      clear hd
      obtain ⟨v, hv⟩ : ∃ v, l[k]? = some v := ⟨_, List.getElem?_eq_getElem hlt⟩
      have hv2 : (l.map Vl.cs)[k]? = some v.cs := by rw [List.getElem?_map, hv]; rfl
      obtain ⟨vk, vn, vb, vt⟩ := v
      unfold Vl.cs at hv2
      dsimp only at hv2
      repeat (first | (with_reducible first | apply aw_seq | apply aw_reg | apply rp_nil | apply ae_norm | apply aw_regD | apply aw_block | apply aw_skip) | ((with_reducible apply dr_nil); (first | kernel_rfl | exact rfl)) | ((with_reducible first | apply rp | apply dr); first | ((with_reducible apply does_move); (conv => lhs; whnf)) | ((with_reducible apply does_assign); (conv => lhs; whnf)) | ((with_reducible apply does_load_elem_whole); exact tyOk rfl; exact rfl; exact rfl; assumption; exact rfl) | ((with_reducible apply does_index_sl); exact tyOk rfl; exact rfl; exact tyOk rfl; exact rfl; exact rfl; exact rfl; exact rfl; (simp only [List.length_map, List.length_append, List.length_cons, List.length_nil] at *; omega)) | ((with_reducible apply does_neS); exact rfl; exact rfl; exact tgOk rfl; exact rfl)))
      refine aw_cond rfl (fun hd => absurd hd (by simp)) (fun hd => ?_)
      clear hd
      repeat (first | (with_reducible first | apply aw_reg | apply rp_nil | apply ae_norm | apply be_norm | apply aw_skip) | ((with_reducible apply rp); first | ((with_reducible apply does_move); (conv => lhs; whnf)) | ((with_reducible apply does_add); exact rfl; exact rfl; omega; omega)))
      refine ⟨_, _, ?_, ?_, k + 1, by omega, rfl, rfl⟩
      · omega
      · refine forget_of [] (by repeat' (first | exact ks_nil | (refine ks_cons rfl (by exact SubA.refl _) ?_))) (by repeat' exact trivial) rfl (by repeat' (first | exact trivial | refine And.intro ?_ ?_)) (by repeat' (first | exact trivial | refine And.intro ?_ ?_))
    · have hke : k = l.length := by simp at hd; omega
      clear hd
      subst hke
      repeat (first | (with_reducible first | apply aw_seq | apply aw_reg | apply rp_nil | apply ae_norm | apply aw_exit | apply ae_exit | apply be_exit | apply aw_ret | apply re_ret) | ((with_reducible apply rp); ((with_reducible apply does_assign); (conv => lhs; whnf))))
      (with_reducible apply ret_ok); (focus (repeat' (first | (with_reducible apply rv_nil) | (with_reducible apply rv_cons) | ((with_reducible apply rv_tmp); exact rfl)))); exact rfl; refine SubD.of_eq ?_
      rfl
set_option maxHeartbeats 2000000 in
theorem sameRows_pc (l : List (List Vl)) (hl : l.length ≤ 64) (h5 : ∀ r ∈ l, r.length ≤ 5) : PC Tryd.prog 17 [rowsS l, rowsS l] (bD true) := by
  refine pc_of_aw Tryd.func17 rfl (by kernel_rfl) mixed (by kernel_rfl) (by rw [Tryd.ntmps17]; exact Nat.le_of_ble_eq_true rfl) Tryd.results17 ?_
  repeat (first | (with_reducible first | apply aw_seq | apply aw_reg | apply rp_nil | apply ae_norm) | ((with_reducible apply rp); first | ((with_reducible apply does_move); (conv => lhs; whnf)) | ((with_reducible apply does_assign); (conv => lhs; whnf)) | ((with_reducible apply does_ne); exact rfl; exact rfl) | ((with_reducible apply does_len_map); exact tyOk rfl; exact rfl; exact rfl)))
  refine aw_cond rfl (fun hd => absurd hd (by simp)) (fun hd => ?_)
  clear hd
  repeat (first | (with_reducible first | apply aw_seq | apply aw_reg | apply rp_nil | apply ae_norm | apply aw_block | apply aw_skip) | ((with_reducible apply rp); first | ((with_reducible apply does_move); (conv => lhs; whnf)) | ((with_reducible apply does_len_map); exact tyOk rfl; exact rfl; exact rfl)))
  refine aw_loop (fun m s => ∃ k, k ≤ l.length ∧ m = l.length - k ∧ s = ⟨[(0, .d (rowsS l)), (1, .d (rowsS l)), (12, .d (iD l.length)), (13, .d (iD k))], []⟩) _ _ ?_ ⟨0, by omega, rfl, rfl⟩ ?_
  · refine forget_of [] (by repeat' (first | exact ks_nil | (refine ks_cons rfl (by exact SubA.refl _) ?_))) (by repeat' exact trivial) rfl (by repeat' (first | exact trivial | refine And.intro ?_ ?_)) (by repeat' (first | exact trivial | refine And.intro ?_ ?_))
  · rintro m s ⟨k, hk, rfl, rfl⟩
    repeat (first | (with_reducible first | apply aw_seq | apply aw_reg | apply rp_nil | apply ae_norm) | ((with_reducible apply rp); ((with_reducible apply does_lt); exact rfl; exact rfl)))
    refine aw_cond rfl (fun hd => ?_) (fun hd => ?_)
    · have hlt : k < l.length := by simp at hd; omega
      clear hd
      obtain ⟨r, hr⟩ : ∃ r, l[k]? = some r := ⟨_, List.getElem?_eq_getElem hlt⟩
      have hr2 : (l.map rowC)[k]? = some [valsD r] := by rw [List.getElem?_map, hr]; rfl
      have s1 := sameRow_pc r (by have := h5 r (List.mem_of_getElem? hr); omega)
      repeat (first | (with_reducible first | apply aw_seq | apply aw_reg | apply rp_nil | apply ae_norm | apply aw_regD | apply aw_block | apply aw_skip) | ((with_reducible apply dr_nil); (first | kernel_rfl | exact rfl)) | ((with_reducible first | apply rp | apply dr); first | ((with_reducible apply does_call_flat); exact rfl; exact rfl; exact (s1); exact rfl) | ((with_reducible apply does_move); (conv => lhs; whnf)) | ((with_reducible apply does_assign); (conv => lhs; whnf)) | ((with_reducible apply does_load_elem); exact tyOk rfl; exact rfl; exact rfl; assumption; exact rfl) | ((with_reducible apply does_index_sl); exact tyOk rfl; exact rfl; exact tyOk rfl; exact rfl; exact rfl; exact rfl; exact rfl; (simp only [List.length_map, List.length_append, List.length_cons, List.length_nil] at *; omega)) | ((with_reducible apply does_not); exact rfl)))
      refine aw_cond rfl (fun hd => (by cases hd)) (fun hd => ?_)
      clear hd
      repeat (first | (with_reducible first | apply aw_reg | apply rp_nil | apply ae_norm | apply be_norm | apply aw_skip) | ((with_reducible apply rp); first | ((with_reducible apply does_move); (conv => lhs; whnf)) | ((with_reducible apply does_add); exact rfl; exact rfl; omega; omega)))
      refine ⟨_, _, ?_, ?_, k + 1, by omega, rfl, rfl⟩
      · omega
      · refine forget_of [] (by repeat' (first | exact ks_nil | (refine ks_cons rfl (by exact SubA.refl _) ?_))) (by repeat' exact trivial) rfl (by repeat' (first | exact trivial | refine And.intro ?_ ?_)) (by repeat' (first | exact trivial | refine And.intro ?_ ?_))
    · have hke : k = l.length := by simp at hd; omega
      clear hd
      subst hke
      repeat (first | (with_reducible first | apply aw_seq | apply aw_reg | apply rp_nil | apply ae_norm | apply aw_exit | apply ae_exit | apply be_exit | apply aw_ret | apply re_ret) | ((with_reducible apply rp); ((with_reducible apply does_assign); (conv => lhs; whnf))))
      (with_reducible apply ret_ok); (focus (repeat' (first | (with_reducible apply rv_nil) | (with_reducible apply rv_cons) | ((with_reducible apply rv_tmp); exact rfl)))); exact rfl; refine SubD.of_eq ?_
      rfl
theorem tableTells_pc : PC Tryd.prog 13 [] (bD true) := by
  have c1 : PC Tryd.prog 35 [.nl] (colsD (colsF [])) := (cols_pc []).args (SubDs.cons (SubD.nil 4) (fun _ => rfl) SubDs.nil)
  have hc := colsF_ok []
  have hk : ∃ n l, colsF [] = ⟨n, 2, false⟩ :: l := ⟨_, _, rfl⟩
  have hr : FitR [numV 4] (colsF []) := by
    refine ⟨rfl, fun i v c hv hcc => ?_⟩
    cases i with
    | zero =>
      injection hv with hv
      injection hcc with hcc
      subst hv hcc
      exact ⟨.int 4, .inl rfl⟩
    | succ i => cases hv
  have t0 := tbN_ok (n := { data := #[116] }) (by decide) hc hk
  have i1 := insert_sub (tbN_sub { data := #[116] } (colsF [])) t0 1 (by omega) [numV 4] hr
  have i1 : PC Tryd.prog 12 [.ag (tbNl { data := #[116] } (colsF [])), iD 1, valsD [numV 4]] (.tu [.ag ((tbN { data := #[116] } (colsF [])).put 1 0 [numV 4]).cs, iD 0]) := i1
  have t1 := t0.put (i := 1) (n := 0) (r := [numV 4]) hr (by omega) ((tbN_keys _ _ 4).not (by decide) 1)
  have r1 := rows_pc _ t1 true true
  have r1 : PC Tryd.prog 14 [.ag ((tbN { data := #[116] } (colsF [])).put 1 0 [numV 4]).cs, .ag [bD true, bD true]] (.tu [.sl 1 [[.sl 4 [[iD 2, iD 4, qD 0, strD .empty]]]], iD 0]) := r1
  have b1 := bothD_pc
  have hl := Tb.len t1
  unfold tbNl at i1
  generalize ((tbN { data := #[116] } (colsF [])).put 1 0 [numV 4]).cs = cs at *
  generalize colsF [] = cols at *
  clear t0 t1 hc hk hr
  refine pc_of_aw Tryd.func13 rfl (by kernel_rfl) mixed (by kernel_rfl) (by rw [Tryd.ntmps13]; exact Nat.le_of_ble_eq_true rfl) Tryd.results13 ?_
  repeat (first | (with_reducible first | apply aw_seq | apply aw_reg | apply rp_nil | apply ae_norm | apply aw_regD | apply aw_ret | apply re_ret) | ((with_reducible apply dr_nil); (first | kernel_rfl | exact rfl)) | ((first | (with_reducible first | apply rp | apply dr) | ((with_reducible apply rpG); exact rfl; exact gval_t rfl; (focus repeat' (first | exact trivial | exact fun h => h | refine And.intro ?_ ?_)); intro hgd; have hgd0 := hgd; (try simp only [decide_eq_true_eq, Bool.and_eq_true, Bool.not_eq_true', beq_iff_eq] at hgd))); first | ((with_reducible apply does_call'); exact rfl; exact rfl; exact rfl; exact (c1)) | ((with_reducible apply does_call'); exact rfl; exact rfl; exact rfl; exact (r1)) | ((with_reducible apply does_call_flat); exact rfl; exact rfl; exact (b1); exact rfl) | (exact does_load_allD (tyOk rfl) rfl rfl rfl hl) | ((with_reducible apply does_move); (conv => lhs; whnf)) | ((with_reducible apply does_assign); (conv => lhs; whnf)) | ((with_reducible apply does_and); exact rfl; exact rfl; exact rfl; exact fun h => h) | ((with_reducible apply does_fieldAddr); exact tyOk rfl; exact rfl; exact rfl; decide; exact rfl) | ((with_reducible apply does_load_elem); exact tyOk rfl; exact rfl; exact rfl; exact rfl; exact rfl) | ((with_reducible apply does_index_sl); exact tyOk rfl; exact rfl; exact tyOk rfl; exact rfl; exact rfl; exact rfl; exact rfl; (dsimp only; simp only [List.length_map, List.length_append, List.length_cons, List.length_nil] at *; omega)) | ((with_reducible apply does_eq); exact rfl; exact rfl) | ((with_reducible apply does_extract); exact rfl; exact rfl) | ((with_reducible apply does_len_map); exact tyOk rfl; exact rfl; exact rfl) | ((with_reducible apply does_build); exact tyOk rfl; exact rfl; exact rfl; (focus repeat' (first | exact rfl | refine ⟨_, _, rfl, rfl, Nat.le_of_ble_eq_true rfl, rfl, ?_⟩)); exact rfl)) | ((with_reducible apply rp1); first | ((with_reducible apply does_call1); exact rfl; exact rfl; exact rfl; exact (i1)) | ((with_reducible apply does_alloc); exact tyOk rfl; exact rfl) | ((with_reducible apply does_buildSlice); exact tyOk rfl; exact rfl; exact tyOk rfl; exact rfl; exact rfl; (focus repeat' (first | exact trivial | refine And.intro rfl (And.intro rfl ?_))); decide; decide; exact rfl)) | ((with_reducible apply rpN); (exact does_store_whole (tyOk rfl) rfl rfl rfl hl hl)))
  (with_reducible apply ret_ok); (focus (repeat' (first | (with_reducible apply rv_nil) | (with_reducible apply rv_cons) | ((with_reducible apply rv_tmp); exact rfl)))); exact rfl; refine SubD.of_eq ?_
  rfl
end Go.Proofs.YtpaccaojgbfjdaaDoor

