/-
  kinds.Row as a contract. No condition but that the columns and the row may be.
-/
import Derived.Test.YtpaccaojgbfjdaaDoorZK
import Derived.Test.YtpaccaojgbfjdaaDoorZSomeP
namespace Go.Proofs.YtpaccaojgbfjdaaDoor
set_option linter.unusedSimpArgs false
set_option linter.unusedVariables false
open Go.RowKit
open Go.Lib

/-- A value that fits a column. -/
def FitC (v : Vl) (c : Cl) : Prop := Gd v ∧ (v.k = c.kind ∨ (v.k = 0 ∧ c.null = true))
/-- A row that fits columns. -/
structure FitR (row : List Vl) (cols : List Cl) : Prop where
  len : row.length = cols.length
  fit : ∀ (i : Nat) (v : Vl) (c : Cl), row[i]? = some v → cols[i]? = some c → FitC v c
theorem FitR.gd {row : List Vl} {cols : List Cl} (h : FitR row cols) : ∀ v ∈ row, Gd v := fun v hv => by
  obtain ⟨i, hi⟩ := List.getElem?_of_mem hv
  have hlt : i < cols.length := by have := h.len; have := (List.getElem?_eq_some_iff.1 hi).1; omega
  exact (h.fit i v _ hi (List.getElem?_eq_getElem hlt)).1
set_option maxHeartbeats 2000000 in
theorem fits_row_pc (row : List Vl) (cols : List Cl) (hc : ColsOk cols) (h : FitR row cols) : PC Tryd.prog 67 [valsD row, colsD cols] (iD 0) := by
  have c1 := columns_pc cols hc
  have hl5 := hc.len
  have hlen := h.len
  refine pc_of_aw Tryd.func67 rfl (by kernel_rfl) mixed (by kernel_rfl) (by rw [Tryd.ntmps67]; exact Nat.le_of_ble_eq_true rfl) Tryd.results67 ?_
  repeat (first | (with_reducible first | apply aw_seq | apply aw_reg | apply rp_nil | apply ae_norm | apply aw_block | apply aw_skip) | ((with_reducible apply rp); first | ((with_reducible apply does_call_flat); exact rfl; exact rfl; exact (c1); exact rfl) | ((with_reducible apply does_move); (conv => lhs; whnf)) | ((with_reducible apply does_assign); (conv => lhs; whnf)) | ((with_reducible apply does_ne); exact rfl; exact rfl) | ((with_reducible apply does_len_map); exact tyOk rfl; exact rfl; exact rfl)) | ((with_reducible apply aw_cond); exact rfl; (focus (intro hd; (first | (cases hd; done) | (exfalso; simp at hd; omega)))); (intro hd; clear hd)))
  refine aw_loop (fun m s => ∃ k, k ≤ row.length ∧ m = row.length - k ∧ s = ⟨[(1, .d (colsD cols)), (19, .d (valsD row)), (20, .d (iD row.length)), (21, .d (iD k))], []⟩) _ _ ?_ ⟨0, by omega, rfl, rfl⟩ ?_
  · refine forget_of [] (by repeat' (first | exact ks_nil | (refine ks_cons rfl (by exact SubA.refl _) ?_))) (by repeat' exact trivial) rfl (by repeat' (first | exact trivial | refine And.intro ?_ ?_)) (by repeat' (first | exact trivial | refine And.intro ?_ ?_))
  · rintro m s ⟨k, hk, rfl, rfl⟩
    repeat (first | (with_reducible first | apply aw_seq | apply aw_reg | apply rp_nil | apply ae_norm) | ((with_reducible apply rp); ((with_reducible apply does_lt); exact rfl; exact rfl)))
    refine aw_cond rfl (fun hd => ?_) (fun hd => ?_)
    · have hlt : k < row.length := by simp at hd; omega
      clear hd
      obtain ⟨v, hv⟩ : ∃ v, row[k]? = some v := ⟨_, List.getElem?_eq_getElem hlt⟩
      obtain ⟨c, hcc⟩ : ∃ c, cols[k]? = some c := ⟨_, List.getElem?_eq_getElem (by omega)⟩
      have hv2 : (row.map Vl.cs)[k]? = some v.cs := by rw [List.getElem?_map, hv]; rfl
      have hc2 : (cols.map Cl.cs)[k]? = some c.cs := by rw [List.getElem?_map, hcc]; rfl
      obtain ⟨hgd, hfit⟩ := h.fit k v c hv hcc
      have v1 := check_pc v (Nat.le_trans hgd.size (by omega))
      rw [hgd.chk] at v1
      have q1 : (v.k == 0 && !c.null) = false := by
        rw [Bool.and_eq_false_iff]
        rcases hfit with hf | ⟨_, hf⟩
        · have := hc.kind c (List.mem_of_getElem? hcc)
          exact .inl (beq_eq_false_iff_ne.2 (by omega))
        · exact .inr (by rw [hf]; rfl)
      have q2 : (v.k != 0 && v.k != (c.kind : Int)) = false := by
        rw [Bool.and_eq_false_iff]
        rcases hfit with hf | ⟨hf, _⟩
        · exact .inr (by rw [hf]; simp)
        · exact .inl (by rw [hf]; rfl)
      clear hgd hfit c1
      obtain ⟨vk, vn, vb, vt⟩ := v
      obtain ⟨cn, ck, cb⟩ := c
      unfold Vl.cs at *
      unfold Cl.cs at hc2
      dsimp only at *
      repeat (first | (with_reducible first | apply aw_seq | apply aw_reg | apply rp_nil | apply ae_norm | apply aw_block | apply aw_skip) | ((with_reducible apply rp); first | ((with_reducible apply does_call_flat); exact rfl; exact rfl; exact (v1); exact rfl) | ((with_reducible apply does_move); (conv => lhs; whnf)) | ((with_reducible apply does_assign); (conv => lhs; whnf)) | ((with_reducible apply does_load_row); exact tyOk rfl; exact rfl; exact rfl; exact rfl; exact Nat.le_of_ble_eq_true rfl; exact rfl) | ((with_reducible apply does_load_elem_whole); exact tyOk rfl; exact rfl; exact rfl; assumption; exact rfl) | ((with_reducible apply does_index_sl); exact tyOk rfl; exact rfl; exact tyOk rfl; exact rfl; exact rfl; exact rfl; exact rfl; (simp only [List.length_map, List.length_append, List.length_cons, List.length_nil] at *; omega)) | ((with_reducible apply does_ne); exact rfl; exact rfl)) | ((with_reducible apply rp1); ((with_reducible apply does_alloc); exact tyOk rfl; exact rfl)) | ((with_reducible apply rpN); ((with_reducible apply does_store_whole); exact tyOk rfl; exact rfl; exact rfl; exact rfl; exact rfl; exact rfl)))
      refine aw_cond rfl (fun hd => absurd hd (by decide)) (fun _ => ?_)
      repeat (first | (with_reducible first | apply aw_seq | apply aw_reg | apply rp_nil | apply ae_norm | apply aw_block | apply aw_skip) | ((first | (with_reducible apply rp) | ((with_reducible apply rpG); exact rfl; exact gval_t rfl; (focus repeat' (first | exact trivial | exact fun h => h | refine And.intro ?_ ?_)); intro hgd; have hgd0 := hgd; (try simp only [decide_eq_true_eq, Bool.and_eq_true, Bool.not_eq_true', beq_iff_eq] at hgd))); first | ((with_reducible apply does_move); (conv => lhs; whnf)) | ((with_reducible apply does_assign); (conv => lhs; whnf)) | ((with_reducible apply does_and); exact rfl; exact rfl; exact rfl; exact fun h => h) | ((with_reducible apply does_fieldAddr); exact tyOk rfl; exact rfl; exact rfl; decide; exact rfl) | ((with_reducible apply does_load_var); exact tyOk rfl; exact rfl; exact rfl; exact rfl; exact rfl) | ((with_reducible apply does_load_elem); exact tyOk rfl; exact rfl; exact rfl; assumption; exact rfl) | ((with_reducible apply does_index_sl); exact tyOk rfl; exact rfl; exact tyOk rfl; exact rfl; exact rfl; exact rfl; exact rfl; (simp only [List.length_map, List.length_append, List.length_cons, List.length_nil] at *; omega)) | ((with_reducible apply does_eq); exact rfl; exact rfl) | ((with_reducible apply does_not); exact rfl)))
      refine aw_cond rfl (fun hd => absurd (q1.symm.trans hd) (by decide)) (fun hd => ?_)
      clear hd
      repeat (first | (with_reducible first | apply aw_seq | apply ae_norm | apply aw_regD) | ((with_reducible apply dr_nil); (first | kernel_rfl | exact rfl)) | ((first | (with_reducible apply dr) | ((with_reducible apply drG); exact rfl; exact gval_t rfl; (focus repeat' (first | exact trivial | exact fun h => h | refine And.intro ?_ ?_)); intro hgd; have hgd0 := hgd; (try simp only [decide_eq_true_eq, Bool.and_eq_true, Bool.not_eq_true', beq_iff_eq] at hgd))); first | ((with_reducible apply does_move); (conv => lhs; whnf)) | ((with_reducible apply does_assign); (conv => lhs; whnf)) | ((with_reducible apply does_and); exact rfl; exact rfl; exact rfl; exact fun h => h) | ((with_reducible apply does_fieldAddr); exact tyOk rfl; exact rfl; exact rfl; decide; exact rfl) | ((with_reducible apply does_load_var); exact tyOk rfl; exact rfl; exact rfl; exact rfl; exact rfl) | ((with_reducible apply does_load_elem); exact tyOk rfl; exact rfl; exact rfl; assumption; exact rfl) | ((with_reducible apply does_index_sl); exact tyOk rfl; exact rfl; exact tyOk rfl; exact rfl; exact rfl; exact rfl; exact rfl; (simp only [List.length_map, List.length_append, List.length_cons, List.length_nil] at *; omega)) | ((with_reducible apply does_ne); exact rfl; exact rfl)))
      refine aw_cond rfl (fun hd => absurd (q2.symm.trans hd) (by decide)) (fun hd => ?_)
      clear hd
      repeat (first | (with_reducible first | apply aw_reg | apply rp_nil | apply ae_norm | apply be_norm | apply aw_skip) | ((with_reducible apply rp); first | ((with_reducible apply does_move); (conv => lhs; whnf)) | ((with_reducible apply does_add); exact rfl; exact rfl; omega; omega)))
      refine ⟨_, _, ?_, ?_, k + 1, by omega, rfl, rfl⟩
      · omega
      · refine forget_of [] (by repeat' (first | exact ks_nil | (refine ks_cons rfl (by exact SubA.refl _) ?_))) (by repeat' exact trivial) rfl (by repeat' (first | exact trivial | refine And.intro ?_ ?_)) (by repeat' (first | exact trivial | refine And.intro ?_ ?_))
    · have hke : k = row.length := by simp at hd; omega
      clear hd
      subst hke
      repeat (first | (with_reducible first | apply aw_seq | apply aw_reg | apply rp_nil | apply ae_norm | apply aw_exit | apply ae_exit | apply be_exit | apply aw_ret | apply re_ret) | ((with_reducible apply rp); ((with_reducible apply does_assign); (conv => lhs; whnf))))
      (with_reducible apply ret_ok); (focus (repeat' (first | (with_reducible apply rv_nil) | (with_reducible apply rv_cons) | ((with_reducible apply rv_tmp); exact rfl)))); exact rfl; refine SubD.of_eq ?_
      rfl
theorem kRow_pc (row : List Vl) (cols : List Cl) (hc : ColsOk cols) (h : FitR row cols) : PC Tryd.prog 40 [valsD row, colsD cols] (iD 0) := by
  have c1 := fits_row_pc row cols hc h
  refine pc_of_aw Tryd.func40 rfl (by kernel_rfl) mixed (by kernel_rfl) (by rw [Tryd.ntmps40]; exact Nat.le_of_ble_eq_true rfl) Tryd.results40 ?_
  repeat (first | (with_reducible first | apply aw_seq | apply aw_reg | apply rp_nil | apply ae_norm | apply aw_ret | apply re_ret) | ((with_reducible apply rp); first | ((with_reducible apply does_call_flat); exact rfl; exact rfl; exact (c1); exact rfl) | ((with_reducible apply does_move); (conv => lhs; whnf)) | ((with_reducible apply does_assign); (conv => lhs; whnf))))
  (with_reducible apply ret_ok); (focus (repeat' (first | (with_reducible apply rv_nil) | (with_reducible apply rv_cons) | ((with_reducible apply rv_tmp); exact rfl)))); exact rfl; refine SubD.of_eq ?_
  rfl
end Go.Proofs.YtpaccaojgbfjdaaDoor

