/-
  lex.Check of a name. No condition but that it is one.
-/
import Derived.Test.YtlpnnnmdkglkcaaDoorZEx
import Derived.Test.YtlpnnnmdkglkcaaDoorZTl
import Derived.Test.YtlpnnnmdkglkcaaDoorZG
import Derived.Test.YtlpnnnmdkglkcaaDoorZC
import Derived.Test.YtlpnnnmdkglkcaaDoorZVal
namespace Go.Proofs.YtlpnnnmdkglkcaaDoor
set_option linter.unusedSimpArgs false
set_option linter.unusedVariables false
open Go.RowKit

section
variable {P : Program} {dst : Option Nat} {ty : TypeId} {e : Operand → A} {β : Bx} {T T' : TypeId} {x y : Operand}
theorem does_sne_to {a b : ByteArray} {c : Bool} (hx : e x = .d (strD a)) (hy : e y = .d (strD b)) (hc : (!(a.toList == b.toList)) = c) : Does P dst (.binOp .neq T x y T') ty e β (.d (bD c)) [] [] := by
  subst hc; exact does_sne hx hy
end
theorem small_pc (c : UInt8) : PC Tryd.prog 34 [u8D c] (bD (smallB c)) := by
  have e : smallB c = (decide ((c.toNat : Int) ≥ 97) && decide ((c.toNat : Int) ≤ 122)) := by unfold smallB; congr 1 <;> exact decide_eq_decide.2 (by omega)
  rw [e]
  refine pc_of_aw Tryd.func34 rfl (by kernel_rfl) mixed (by kernel_rfl) (by rw [Tryd.ntmps34]; exact Nat.le_of_ble_eq_true rfl) Tryd.results34 ?_
  repeat (first | ((first | (with_reducible apply rpGT) | (with_reducible apply drGT) | (with_reducible apply rpGTN) | (with_reducible apply drGTN)); exact rfl; exact gval_t rfl; (first | exact rfl | assumption | decide); (focus repeat' (first | exact trivial | exact fun h => h | refine And.intro ?_ ?_)); ((first | ((with_reducible apply does_move); (conv => lhs; whnf)) | ((with_reducible apply does_assign); (conv => lhs; whnf)) | ((with_reducible apply does_and); exact rfl; exact rfl; exact rfl; exact fun h => h) | ((with_reducible apply does_le); exact rfl; exact rfl) | ((with_reducible apply does_ge); exact rfl; exact rfl)); (first | exact lapp_nil _ | exact lapp_1 _ _ | exact lapp_2 _ _ _ | exact lapp_3 _ _ _ _))) | (with_reducible first | apply aw_seq | apply aw_reg | apply rp_nil | apply ae_norm | apply aw_ret | apply re_ret) | ((first | (with_reducible apply rp) | ((with_reducible apply rpG); exact rfl; exact gval_t rfl; (focus repeat' (first | exact trivial | exact fun h => h | refine And.intro ?_ ?_)); intro hgd; have hgd0 := hgd; (try simp only [decide_eq_true_eq, Bool.and_eq_true, Bool.not_eq_true', beq_iff_eq] at hgd))); first | ((with_reducible apply does_move); (conv => lhs; whnf)) | ((with_reducible apply does_assign); (conv => lhs; whnf)) | ((with_reducible apply does_and); exact rfl; exact rfl; exact rfl; exact fun h => h) | ((with_reducible apply does_le); exact rfl; exact rfl) | ((with_reducible apply does_ge); exact rfl; exact rfl)))
  (with_reducible apply ret_ok); (focus (repeat' (first | (with_reducible apply rv_nil) | (with_reducible apply rv_cons) | ((with_reducible apply rv_tmp); exact rfl)))); exact rfl; refine SubD.of_eq ?_
  rfl
theorem digit_pc (c : UInt8) : PC Tryd.prog 54 [u8D c] (bD (digitB c)) := by
  have e : digitB c = (decide ((c.toNat : Int) ≥ 48) && decide ((c.toNat : Int) ≤ 57)) := by unfold digitB; congr 1 <;> exact decide_eq_decide.2 (by omega)
  rw [e]
  refine pc_of_aw Tryd.func54 rfl (by kernel_rfl) mixed (by kernel_rfl) (by rw [Tryd.ntmps54]; exact Nat.le_of_ble_eq_true rfl) Tryd.results54 ?_
  repeat (first | ((first | (with_reducible apply rpGT) | (with_reducible apply drGT) | (with_reducible apply rpGTN) | (with_reducible apply drGTN)); exact rfl; exact gval_t rfl; (first | exact rfl | assumption | decide); (focus repeat' (first | exact trivial | exact fun h => h | refine And.intro ?_ ?_)); ((first | ((with_reducible apply does_move); (conv => lhs; whnf)) | ((with_reducible apply does_assign); (conv => lhs; whnf)) | ((with_reducible apply does_and); exact rfl; exact rfl; exact rfl; exact fun h => h) | ((with_reducible apply does_le); exact rfl; exact rfl) | ((with_reducible apply does_ge); exact rfl; exact rfl)); (first | exact lapp_nil _ | exact lapp_1 _ _ | exact lapp_2 _ _ _ | exact lapp_3 _ _ _ _))) | (with_reducible first | apply aw_seq | apply aw_reg | apply rp_nil | apply ae_norm | apply aw_ret | apply re_ret) | ((first | (with_reducible apply rp) | ((with_reducible apply rpG); exact rfl; exact gval_t rfl; (focus repeat' (first | exact trivial | exact fun h => h | refine And.intro ?_ ?_)); intro hgd; have hgd0 := hgd; (try simp only [decide_eq_true_eq, Bool.and_eq_true, Bool.not_eq_true', beq_iff_eq] at hgd))); first | ((with_reducible apply does_move); (conv => lhs; whnf)) | ((with_reducible apply does_assign); (conv => lhs; whnf)) | ((with_reducible apply does_and); exact rfl; exact rfl; exact rfl; exact fun h => h) | ((with_reducible apply does_le); exact rfl; exact rfl) | ((with_reducible apply does_ge); exact rfl; exact rfl)))
  (with_reducible apply ret_ok); (focus (repeat' (first | (with_reducible apply rv_nil) | (with_reducible apply rv_cons) | ((with_reducible apply rv_tmp); exact rfl)))); exact rfl; refine SubD.of_eq ?_
  rfl
theorem inName_pc (c : UInt8) : PC Tryd.prog 33 [u8D c] (bD (inNameB c)) := by
  have s1 := small_pc c
  have d1 := digit_pc c
  have e : inNameB c = ((smallB c || digitB c) || ((c.toNat : Int) == 95)) := by
    unfold inNameB
    congr 1
    rw [Bool.eq_iff_iff, beq_iff_eq, beq_iff_eq]
    omega
  rw [e]
  refine pc_of_aw Tryd.func33 rfl (by kernel_rfl) mixed (by kernel_rfl) (by rw [Tryd.ntmps33]; exact Nat.le_of_ble_eq_true rfl) Tryd.results33 ?_
  repeat (first | ((first | (with_reducible apply rpGT) | (with_reducible apply drGT) | (with_reducible apply rpGTN) | (with_reducible apply drGTN)); exact rfl; exact gval_f rfl; (first | exact rfl | assumption | decide); (focus repeat' (first | exact trivial | exact fun h => h | refine And.intro ?_ ?_)); ((first | ((with_reducible apply does_call_flat); exact rfl; exact rfl; exact (s1); exact rfl) | ((with_reducible apply does_call_flat); exact rfl; exact rfl; exact (d1); exact rfl) | ((with_reducible apply does_move); (conv => lhs; whnf)) | ((with_reducible apply does_assign); (conv => lhs; whnf)) | ((with_reducible apply does_or); exact rfl; exact rfl; exact rfl; exact fun h => h) | ((with_reducible apply does_eq); exact rfl; exact rfl)); (first | exact lapp_nil _ | exact lapp_1 _ _ | exact lapp_2 _ _ _ | exact lapp_3 _ _ _ _))) | (with_reducible first | apply aw_seq | apply aw_reg | apply rp_nil | apply ae_norm | apply aw_ret | apply re_ret) | ((first | (with_reducible apply rp) | ((with_reducible apply rpG); exact rfl; exact gval_f rfl; (focus repeat' (first | exact trivial | exact fun h => h | refine And.intro ?_ ?_)); intro hgd; have hgd0 := hgd; (try simp only [decide_eq_true_eq, Bool.and_eq_true, Bool.not_eq_true', beq_iff_eq] at hgd))); first | ((with_reducible apply does_call_flat); exact rfl; exact rfl; exact (s1); exact rfl) | ((with_reducible apply does_call_flat); exact rfl; exact rfl; exact (d1); exact rfl) | ((with_reducible apply does_move); (conv => lhs; whnf)) | ((with_reducible apply does_assign); (conv => lhs; whnf)) | ((with_reducible apply does_or); exact rfl; exact rfl; exact rfl; exact fun h => h) | ((with_reducible apply does_eq); exact rfl; exact rfl)))
  (with_reducible apply ret_ok); (focus (repeat' (first | (with_reducible apply rv_nil) | (with_reducible apply rv_cons) | ((with_reducible apply rv_tmp); exact rfl)))); exact rfl; refine SubD.of_eq ?_
  rfl
theorem name_nil {n : ByteArray} (h : NameOk n) : (n.toList == (⟨#[]⟩ : ByteArray).toList) = false := by
  rw [beq_eq_false_iff_ne]
  intro e
  rw [ByteArray.toList_eq, ByteArray.toList_eq] at e
  unfold NameOk at h
  rw [e] at h
  cases h
theorem name_get {n : ByteArray} (h : NameOk n) : ∃ c l, n.data.toList = c :: l ∧ smallB c = true ∧ n.size ≤ 8 ∧ ∀ d ∈ n.data.toList, inNameB d = true := by
  have hs : n.size = n.data.toList.length := by rw [Array.length_toList]; rfl
  unfold NameOk at h
  cases hn : n.data.toList with
  | nil => rw [hn] at h; cases h
  | cons c l =>
    rw [hn] at h
    unfold nameB at h
    simp only [Bool.and_eq_true, decide_eq_true_eq] at h
    exact ⟨c, l, rfl, h.1.1, by rw [hs, hn]; exact h.1.2, List.all_eq_true.1 h.2⟩
set_option maxHeartbeats 1000000 in
theorem all_px (s : ByteArray) (h : NameOk s) : PX Tryd.prog 32 [.d (strD s), .fn (.func 33) [] []] [] [] (bD true) [] [] := by
  obtain ⟨_, _, _, _, h8, hall⟩ := name_get h
  have hn := name_nil h
  refine pxf_of_aw Tryd.func32 rfl (by kernel_rfl) mixed (by kernel_rfl) (by rw [Tryd.ntmps32]; exact Nat.le_of_ble_eq_true rfl) Tryd.results32 rfl ?_
  repeat (first | ((first | (with_reducible apply rpGT) | (with_reducible apply drGT) | (with_reducible apply rpGTN) | (with_reducible apply drGTN)); exact rfl; (first | exact gval_t rfl | exact gval_f rfl | exact gval_gt rfl | exact gval_gf rfl); (first | exact rfl | assumption | decide); (focus repeat' (first | exact trivial | exact fun h => h | refine And.intro ?_ ?_ | (intro h; (first | exact h | (simp only [Bool.and_eq_true] at h; (first | exact h.1 | exact h.1.1 | exact h.1.1.1 | exact h.2)) | (rw [h]; rfl) | (rw [hgd0, h]; rfl) | simp_all)))); ((first | ((with_reducible apply does_move); (conv => lhs; whnf)) | ((with_reducible apply does_assign); (conv => lhs; whnf)) | ((with_reducible apply does_len_str); exact tyOk rfl; exact rfl; exact rfl)); (first | exact lapp_nil _ | exact lapp_1 _ _ | exact lapp_2 _ _ _ | exact lapp_3 _ _ _ _))) | (with_reducible first | apply aw_seq | apply aw_reg | apply rp_nil | apply ae_norm | apply aw_block) | ((with_reducible apply rp); first | ((with_reducible apply does_move); (conv => lhs; whnf)) | ((with_reducible apply does_assign); (conv => lhs; whnf)) | ((with_reducible apply does_len_str); exact tyOk rfl; exact rfl; exact rfl)))
  refine aw_loop (fun m st => ∃ k, k ≤ s.size ∧ m = s.size - k ∧ st = ⟨[(0, .d (strD s)), (1, .fn (.func 33) [] []), (7, .d (iD s.size)), (8, .d (iD k))], []⟩) _ _ ?_ ⟨0, by omega, rfl, rfl⟩ ?_
  · refine forget_of [] (by repeat' (first | exact ks_nil | (refine ks_cons rfl (by exact SubA.refl _) ?_))) (by repeat' exact trivial) rfl (by repeat' (first | exact trivial | refine And.intro ?_ ?_)) (by repeat' (first | exact trivial | refine And.intro ?_ ?_))
  · rintro m st ⟨k, hk, rfl, rfl⟩
    repeat (first | ((first | (with_reducible apply rpGT) | (with_reducible apply drGT) | (with_reducible apply rpGTN) | (with_reducible apply drGTN)); exact rfl; (first | exact gval_t rfl | exact gval_f rfl | exact gval_gt rfl | exact gval_gf rfl); (first | exact rfl | assumption | decide); (focus repeat' (first | exact trivial | exact fun h => h | refine And.intro ?_ ?_ | (intro h; (first | exact h | (simp only [Bool.and_eq_true] at h; (first | exact h.1 | exact h.1.1 | exact h.1.1.1 | exact h.2)) | (rw [h]; rfl) | (rw [hgd0, h]; rfl) | simp_all)))); ((first | ((with_reducible apply does_lt); exact rfl; exact rfl)); (first | exact lapp_nil _ | exact lapp_1 _ _ | exact lapp_2 _ _ _ | exact lapp_3 _ _ _ _))) | (with_reducible first | apply aw_seq | apply aw_reg | apply rp_nil | apply ae_norm) | ((with_reducible apply rp); ((with_reducible apply does_lt); exact rfl; exact rfl)))
    refine aw_cond rfl (fun hd => ?_) (fun hd => ?_)
    · have hlt : k < s.size := by simp at hd; omega
      clear hd
      have hb : s.data[k]? = some s.data[k] := Array.getElem?_eq_getElem hlt
      have hin := hall s.data[k] (Array.getElem_mem_toList hlt)
      have p1 := inName_pc s.data[k]
      rw [hin] at p1
      generalize s.data[k] = c at *
      repeat (first | ((first | (with_reducible apply rpGT) | (with_reducible apply drGT) | (with_reducible apply rpGTN) | (with_reducible apply drGTN)); exact rfl; (first | exact gval_t rfl | exact gval_f rfl | exact gval_gt rfl | exact gval_gf rfl); (first | exact rfl | assumption | decide); (focus repeat' (first | exact trivial | exact fun h => h | refine And.intro ?_ ?_ | (intro h; (first | exact h | (simp only [Bool.and_eq_true] at h; (first | exact h.1 | exact h.1.1 | exact h.1.1.1 | exact h.2)) | (rw [h]; rfl) | (rw [hgd0, h]; rfl) | simp_all)))); ((first | ((with_reducible apply does_call_flat); exact rfl; exact rfl; exact (p1); exact rfl) | ((with_reducible apply does_move); (conv => lhs; whnf)) | ((with_reducible apply does_assign); (conv => lhs; whnf)) | ((with_reducible apply does_not); exact rfl) | ((with_reducible apply does_index_str); exact tyOk rfl; exact rfl; exact rfl; exact rfl; exact rfl; assumption)); (first | exact lapp_nil _ | exact lapp_1 _ _ | exact lapp_2 _ _ _ | exact lapp_3 _ _ _ _))) | (with_reducible first | apply aw_seq | apply aw_reg | apply rp_nil | apply ae_norm | apply aw_block | apply aw_skip) | ((with_reducible apply rp); first | ((with_reducible apply does_call_flat); exact rfl; exact rfl; exact (p1); exact rfl) | ((with_reducible apply does_move); (conv => lhs; whnf)) | ((with_reducible apply does_assign); (conv => lhs; whnf)) | ((with_reducible apply does_not); exact rfl) | ((with_reducible apply does_index_str); exact tyOk rfl; exact rfl; exact rfl; exact rfl; exact rfl; assumption)))
      refine aw_cond rfl (fun hd => (by cases hd)) (fun hd => ?_)
      clear hd
      repeat (first | ((first | (with_reducible apply rpGT) | (with_reducible apply drGT) | (with_reducible apply rpGTN) | (with_reducible apply drGTN)); exact rfl; (first | exact gval_t rfl | exact gval_f rfl | exact gval_gt rfl | exact gval_gf rfl); (first | exact rfl | assumption | decide); (focus repeat' (first | exact trivial | exact fun h => h | refine And.intro ?_ ?_ | (intro h; (first | exact h | (simp only [Bool.and_eq_true] at h; (first | exact h.1 | exact h.1.1 | exact h.1.1.1 | exact h.2)) | (rw [h]; rfl) | (rw [hgd0, h]; rfl) | simp_all)))); ((first | ((with_reducible apply does_move); (conv => lhs; whnf)) | ((with_reducible apply does_add); exact rfl; exact rfl; omega; omega)); (first | exact lapp_nil _ | exact lapp_1 _ _ | exact lapp_2 _ _ _ | exact lapp_3 _ _ _ _))) | (with_reducible first | apply aw_reg | apply rp_nil | apply ae_norm | apply be_norm | apply aw_skip) | ((with_reducible apply rp); first | ((with_reducible apply does_move); (conv => lhs; whnf)) | ((with_reducible apply does_add); exact rfl; exact rfl; omega; omega)))
      refine ⟨_, _, ?_, ?_, k + 1, by omega, rfl, rfl⟩
      · omega
      · refine forget_of [] (by repeat' (first | exact ks_nil | (refine ks_cons rfl (by exact SubA.refl _) ?_))) (by repeat' exact trivial) rfl (by repeat' (first | exact trivial | refine And.intro ?_ ?_)) (by repeat' (first | exact trivial | refine And.intro ?_ ?_))
    · have hke : k = s.size := by simp at hd; omega
      clear hd
      subst hke
      repeat (first | ((first | (with_reducible apply rpGT) | (with_reducible apply drGT) | (with_reducible apply rpGTN) | (with_reducible apply drGTN)); exact rfl; (first | exact gval_t rfl | exact gval_f rfl | exact gval_gt rfl | exact gval_gf rfl); (first | exact rfl | assumption | decide); (focus repeat' (first | exact trivial | exact fun h => h | refine And.intro ?_ ?_ | (intro h; (first | exact h | (simp only [Bool.and_eq_true] at h; (first | exact h.1 | exact h.1.1 | exact h.1.1.1 | exact h.2)) | (rw [h]; rfl) | (rw [hgd0, h]; rfl) | simp_all)))); ((first | (exact does_sne_to (c := true) rfl rfl (by rw [hn]; rfl)) | ((with_reducible apply does_move); (conv => lhs; whnf)) | ((with_reducible apply does_assign); (conv => lhs; whnf))); (first | exact lapp_nil _ | exact lapp_1 _ _ | exact lapp_2 _ _ _ | exact lapp_3 _ _ _ _))) | (with_reducible first | apply aw_seq | apply aw_reg | apply rp_nil | apply ae_norm | apply aw_exit | apply ae_exit | apply be_exit | apply aw_ret | apply xf_ret) | ((with_reducible apply rp); first | (exact does_sne_to (c := true) rfl rfl (by rw [hn]; rfl)) | ((with_reducible apply does_move); (conv => lhs; whnf)) | ((with_reducible apply does_assign); (conv => lhs; whnf))))
      (with_reducible apply retxf_ok (l := [])); (focus (repeat' (first | (with_reducible apply rv_nil) | (with_reducible apply rv_cons) | ((with_reducible apply rv_tmp); exact rfl)))); exact rfl; exact SubD.refl _; refine ⟨(by repeat' (first | exact ks_nil | (refine ks_cons rfl (by exact SubA.refl _) ?_))), (by repeat' exact trivial), rfl, (by repeat' (first | exact trivial | refine And.intro ?_ ?_)), (by repeat' (first | exact trivial | refine And.intro ?_ ?_))⟩
set_option maxHeartbeats 1000000 in
theorem name_pc (n : ByteArray) (h : NameOk n) : PC Tryd.prog 17 [.ag [iD 1, strD n, iD 0, qD 0]] (iD 0) := by
  obtain ⟨c, l, hc, hs, h8, _⟩ := name_get h
  have a1 := all_px n h
  have s1 := small_pc c
  rw [hs] at s1
  have hb : n.data[0]? = some c := by
    have : n.data.toList[0]? = some c := by rw [hc]; rfl
    rwa [Array.getElem?_toList] at this
  have hz : ¬ ((n.size : Int) > 8) := by omega
  refine pc_of_aw Tryd.func17 rfl (by kernel_rfl) mixed (by kernel_rfl) (by rw [Tryd.ntmps17]; exact Nat.le_of_ble_eq_true rfl) Tryd.results17 ?_
  repeat (first | ((first | (with_reducible apply rpGT) | (with_reducible apply drGT) | (with_reducible apply rpGTN) | (with_reducible apply drGTN)); exact rfl; exact gval_f rfl; (first | exact rfl | assumption | decide); (focus repeat' (first | exact trivial | refine And.intro ?_ ?_)); ((first | ((with_reducible apply does_move); (conv => lhs; whnf)) | ((with_reducible apply does_assign); (conv => lhs; whnf)) | ((with_reducible apply does_and); exact rfl; exact rfl; exact rfl; exact trivial) | ((with_reducible apply does_fieldAddr); exact tyOk rfl; exact rfl; exact rfl; decide; exact rfl) | ((with_reducible apply does_load_var); exact tyOk rfl; exact rfl; exact rfl; exact rfl; exact rfl) | ((with_reducible apply does_lt); exact rfl; exact rfl) | ((with_reducible apply does_gt); exact rfl; exact rfl) | ((with_reducible apply does_box_ag); exact rfl; exact rfl)); (first | exact lapp_nil _ | exact lapp_1 _ _ | exact lapp_2 _ _ _ | exact lapp_3 _ _ _ _))) | (with_reducible first | apply aw_seq | apply aw_reg | apply rp_nil | apply ae_norm) | ((with_reducible apply rp); first | ((with_reducible apply does_move); (conv => lhs; whnf)) | ((with_reducible apply does_assign); (conv => lhs; whnf)) | ((with_reducible apply does_and); exact rfl; exact rfl; exact rfl; exact trivial) | ((with_reducible apply does_fieldAddr); exact tyOk rfl; exact rfl; exact rfl; decide; exact rfl) | ((with_reducible apply does_load_var); exact tyOk rfl; exact rfl; exact rfl; exact rfl; exact rfl) | ((with_reducible apply does_lt); exact rfl; exact rfl) | ((with_reducible apply does_gt); exact rfl; exact rfl)) | ((with_reducible apply rp1); ((with_reducible apply does_box_ag); exact rfl; exact rfl)))
  refine aw_cond rfl (fun hd => (by cases hd)) (fun hd => ?_)
  clear hd
  repeat (first | ((first | (with_reducible apply rpGT) | (with_reducible apply drGT) | (with_reducible apply rpGTN) | (with_reducible apply drGTN)); exact rfl; (first | exact gval_t rfl | exact gval_f rfl); (first | exact rfl | assumption | decide); (focus repeat' (first | exact trivial | exact fun h => h | refine And.intro ?_ ?_ | (intro h; simp_all))); ((first | ((with_reducible apply does_move); (conv => lhs; whnf)) | ((with_reducible apply does_and); exact rfl; exact rfl; exact rfl; (first | exact trivial | exact fun h => h)) | ((with_reducible apply does_or); exact rfl; exact rfl; exact rfl; (first | exact trivial | exact fun h => h)) | ((with_reducible apply does_fieldAddr); exact tyOk rfl; exact rfl; exact rfl; decide; exact rfl) | ((with_reducible apply does_load_var); exact tyOk rfl; exact rfl; exact rfl; exact rfl; exact rfl) | ((with_reducible apply does_eq); exact rfl; exact rfl) | ((with_reducible apply does_gt); exact rfl; exact rfl) | ((with_reducible apply does_len_str); exact tyOk rfl; exact rfl; exact rfl)); (first | exact lapp_nil _ | exact lapp_1 _ _ | exact lapp_2 _ _ _ | exact lapp_3 _ _ _ _))) | (with_reducible first | apply aw_seq | apply aw_reg | apply rp_nil | apply ae_norm | apply aw_skip) | ((first | (with_reducible apply rp) | ((with_reducible apply rpG); exact rfl; (first | exact gval_t rfl | exact gval_f rfl); (focus repeat' (first | exact trivial | exact fun h => h | refine And.intro ?_ ?_ | (intro h; simp_all))); intro hgd; have hgd0 := hgd; (try simp only [decide_eq_true_eq, Bool.and_eq_true, Bool.not_eq_true', beq_iff_eq] at hgd))); first | ((with_reducible apply does_move); (conv => lhs; whnf)) | ((with_reducible apply does_and); exact rfl; exact rfl; exact rfl; (first | exact trivial | exact fun h => h)) | ((with_reducible apply does_or); exact rfl; exact rfl; exact rfl; (first | exact trivial | exact fun h => h)) | ((with_reducible apply does_fieldAddr); exact tyOk rfl; exact rfl; exact rfl; decide; exact rfl) | ((with_reducible apply does_load_var); exact tyOk rfl; exact rfl; exact rfl; exact rfl; exact rfl) | ((with_reducible apply does_eq); exact rfl; exact rfl) | ((with_reducible apply does_gt); exact rfl; exact rfl) | ((with_reducible apply does_len_str); exact tyOk rfl; exact rfl; exact rfl)) | ((first | (with_reducible apply rpGP) | (with_reducible apply drGP)); exact rfl; (first | exact gval_t rfl | exact gval_f rfl); (focus repeat' (first | exact trivial | exact fun h => h | refine And.intro ?_ ?_ | (intro h; simp_all))); (intro hgd; have hgd0 := hgd; (try simp only [decide_eq_true_eq, Bool.and_eq_true, Bool.not_eq_true', beq_iff_eq] at hgd); first | ((with_reducible apply does_or); exact rfl; exact rfl; exact rfl; (first | exact trivial | exact fun h => h)) | ((with_reducible apply does_and); exact rfl; exact rfl; exact rfl; (first | exact trivial | exact fun h => h)))))
  refine aw_cond rfl (fun hd => absurd hd (by simp; omega)) (fun hd => ?_)
  clear hd
  repeat (first | ((first | (with_reducible apply rpGT) | (with_reducible apply drGT) | (with_reducible apply rpGTN) | (with_reducible apply drGTN)); exact rfl; (first | exact gval_t rfl | exact gval_f rfl); (first | exact rfl | assumption | decide); (focus repeat' (first | exact trivial | exact fun h => h | refine And.intro ?_ ?_ | (intro h; simp_all))); ((first | ((with_reducible apply does_move); (conv => lhs; whnf)) | ((with_reducible apply does_and); exact rfl; exact rfl; exact rfl; (first | exact trivial | exact fun h => h)) | ((with_reducible apply does_or); exact rfl; exact rfl; exact rfl; (first | exact trivial | exact fun h => h)) | ((with_reducible apply does_fieldAddr); exact tyOk rfl; exact rfl; exact rfl; decide; exact rfl) | ((with_reducible apply does_load_var); exact tyOk rfl; exact rfl; exact rfl; exact rfl; exact rfl) | ((with_reducible apply does_eq); exact rfl; exact rfl) | ((with_reducible apply does_ne); exact rfl; exact rfl) | ((with_reducible apply does_sne); exact rfl; exact rfl)); (first | exact lapp_nil _ | exact lapp_1 _ _ | exact lapp_2 _ _ _ | exact lapp_3 _ _ _ _))) | (with_reducible first | apply aw_seq | apply aw_reg | apply rp_nil | apply ae_norm | apply aw_skip) | ((first | (with_reducible apply rp) | ((with_reducible apply rpG); exact rfl; (first | exact gval_t rfl | exact gval_f rfl); (focus repeat' (first | exact trivial | exact fun h => h | refine And.intro ?_ ?_ | (intro h; simp_all))); intro hgd; have hgd0 := hgd; (try simp only [decide_eq_true_eq, Bool.and_eq_true, Bool.not_eq_true', beq_iff_eq] at hgd))); first | ((with_reducible apply does_move); (conv => lhs; whnf)) | ((with_reducible apply does_and); exact rfl; exact rfl; exact rfl; (first | exact trivial | exact fun h => h)) | ((with_reducible apply does_or); exact rfl; exact rfl; exact rfl; (first | exact trivial | exact fun h => h)) | ((with_reducible apply does_fieldAddr); exact tyOk rfl; exact rfl; exact rfl; decide; exact rfl) | ((with_reducible apply does_load_var); exact tyOk rfl; exact rfl; exact rfl; exact rfl; exact rfl) | ((with_reducible apply does_eq); exact rfl; exact rfl) | ((with_reducible apply does_ne); exact rfl; exact rfl) | ((with_reducible apply does_sne); exact rfl; exact rfl)) | ((first | (with_reducible apply rpGP) | (with_reducible apply drGP)); exact rfl; (first | exact gval_t rfl | exact gval_f rfl); (focus repeat' (first | exact trivial | exact fun h => h | refine And.intro ?_ ?_ | (intro h; simp_all))); (intro hgd; have hgd0 := hgd; (try simp only [decide_eq_true_eq, Bool.and_eq_true, Bool.not_eq_true', beq_iff_eq] at hgd); first | ((with_reducible apply does_or); exact rfl; exact rfl; exact rfl; (first | exact trivial | exact fun h => h)) | ((with_reducible apply does_and); exact rfl; exact rfl; exact rfl; (first | exact trivial | exact fun h => h)))))
  refine aw_cond rfl (fun hd => absurd hd (by simp)) (fun hd => ?_)
  clear hd
  repeat (first | ((first | (with_reducible apply rpGT) | (with_reducible apply drGT) | (with_reducible apply rpGTN) | (with_reducible apply drGTN)); exact rfl; (first | exact gval_t rfl | exact gval_f rfl | exact gval_gt rfl | exact gval_gf rfl); (first | exact rfl | assumption | decide); (focus repeat' (first | exact trivial | exact fun h => h | refine And.intro ?_ ?_ | (intro h; (first | exact h | (simp only [Bool.and_eq_true] at h; (first | exact h.1 | exact h.1.1 | exact h.1.1.1 | exact h.2)) | (rw [h]; rfl) | (rw [hgd0, h]; rfl) | simp_all)))); ((first | ((with_reducible apply does_assign); (conv => lhs; whnf)) | ((with_reducible apply does_fieldAddr); exact tyOk rfl; exact rfl; exact rfl; decide; exact rfl) | ((with_reducible apply does_load_var); exact tyOk rfl; exact rfl; exact rfl; exact rfl; exact rfl) | ((with_reducible apply does_eq); exact rfl; exact rfl)); (first | exact lapp_nil _ | exact lapp_1 _ _ | exact lapp_2 _ _ _ | exact lapp_3 _ _ _ _))) | (with_reducible first | apply aw_seq | apply aw_reg | apply rp_nil | apply ae_norm | apply aw_block | apply aw_skip) | ((with_reducible apply rp); first | ((with_reducible apply does_assign); (conv => lhs; whnf)) | ((with_reducible apply does_fieldAddr); exact tyOk rfl; exact rfl; exact rfl; decide; exact rfl) | ((with_reducible apply does_load_var); exact tyOk rfl; exact rfl; exact rfl; exact rfl; exact rfl) | ((with_reducible apply does_eq); exact rfl; exact rfl)))
  refine aw_cond rfl (fun hd => ?_) (fun hd => (by cases hd))
  clear hd
  repeat (first | ((first | (with_reducible apply rpGT) | (with_reducible apply drGT) | (with_reducible apply rpGTN) | (with_reducible apply drGTN)); exact rfl; exact gval_t rfl; (first | exact rfl | assumption | decide); (focus repeat' (first | exact trivial | refine And.intro ?_ ?_)); (first | ((refine does_callX [] [] (ups := []) rfl (a1) rfl ?_ rfl ?_ ?_ rfl rfl rfl rfl rfl ?_ rfl rfl; (focus repeat' exact trivial); (focus repeat' (first | exact trivial | refine And.intro ?_ ?_)); (focus repeat' (first | exact trivial | refine And.intro ?_ ?_)); (focus repeat' (first | exact trivial | refine And.intro ?_ ?_))); (first | exact lapp_nil _ | exact lapp_1 _ _ | exact lapp_2 _ _ _ | exact lapp_3 _ _ _ _)) | ((first | ((with_reducible apply does_call_flat); exact rfl; exact rfl; exact (s1); exact rfl) | ((with_reducible apply does_move); (conv => lhs; whnf)) | ((with_reducible apply does_assign); (conv => lhs; whnf)) | ((with_reducible apply does_and); exact rfl; exact rfl; exact rfl; exact trivial) | ((with_reducible apply does_fieldAddr); exact tyOk rfl; exact rfl; exact rfl; decide; exact rfl) | ((with_reducible apply does_load_var); exact tyOk rfl; exact rfl; exact rfl; exact rfl; exact rfl) | ((with_reducible apply does_not); exact rfl) | ((with_reducible apply does_index_str); exact tyOk rfl; exact rfl; exact rfl; exact rfl; exact rfl; assumption)); (first | exact lapp_nil _ | exact lapp_1 _ _ | exact lapp_2 _ _ _ | exact lapp_3 _ _ _ _)))) | (with_reducible first | apply aw_seq | apply aw_reg | apply rp_nil | apply ae_norm | apply be_norm) | ((with_reducible apply rp); first | ((with_reducible apply does_call_flat); exact rfl; exact rfl; exact (s1); exact rfl) | ((with_reducible apply does_move); (conv => lhs; whnf)) | ((with_reducible apply does_assign); (conv => lhs; whnf)) | ((with_reducible apply does_and); exact rfl; exact rfl; exact rfl; exact trivial) | ((with_reducible apply does_fieldAddr); exact tyOk rfl; exact rfl; exact rfl; decide; exact rfl) | ((with_reducible apply does_load_var); exact tyOk rfl; exact rfl; exact rfl; exact rfl; exact rfl) | ((with_reducible apply does_not); exact rfl) | ((with_reducible apply does_index_str); exact tyOk rfl; exact rfl; exact rfl; exact rfl; exact rfl; assumption)) | ((with_reducible apply rpL); (refine does_callX [] [] (ups := []) rfl (a1) rfl ?_ rfl ?_ ?_ rfl rfl rfl rfl rfl ?_ rfl rfl; (focus repeat' exact trivial); (focus repeat' (first | exact trivial | refine And.intro ?_ ?_)); (focus repeat' (first | exact trivial | refine And.intro ?_ ?_)); (focus repeat' (first | exact trivial | refine And.intro ?_ ?_))); exact lapp_nil _))
  refine aw_cond rfl (fun hd => (by cases hd)) (fun hd => ?_)
  clear hd
  repeat (first | ((first | (with_reducible apply rpGT) | (with_reducible apply drGT) | (with_reducible apply rpGTN) | (with_reducible apply drGTN)); exact rfl; (first | exact gval_t rfl | exact gval_f rfl | exact gval_gt rfl | exact gval_gf rfl); (first | exact rfl | assumption | decide); (focus repeat' (first | exact trivial | exact fun h => h | refine And.intro ?_ ?_ | (intro h; (first | exact h | (simp only [Bool.and_eq_true] at h; (first | exact h.1 | exact h.1.1 | exact h.1.1.1 | exact h.2)) | (rw [h]; rfl) | (rw [hgd0, h]; rfl) | simp_all)))); ((first | ((with_reducible apply does_assign); (conv => lhs; whnf))); (first | exact lapp_nil _ | exact lapp_1 _ _ | exact lapp_2 _ _ _ | exact lapp_3 _ _ _ _))) | (with_reducible first | apply aw_seq | apply aw_reg | apply rp_nil | apply ae_norm | apply aw_ret | apply re_ret | apply aw_skip) | ((with_reducible apply rp); ((with_reducible apply does_assign); (conv => lhs; whnf))))
  (with_reducible apply ret_ok); (focus (repeat' (first | (with_reducible apply rv_nil) | (with_reducible apply rv_cons) | ((with_reducible apply rv_tmp); exact rfl)))); exact rfl; refine SubD.of_eq ?_
  rfl
end Go.Proofs.YtlpnnnmdkglkcaaDoor


/-
  expr.size, wants, node, nodes, Check of an expression that may be. No condition but its size.
-/
namespace Go.Proofs.YtlpnnnmdkglkcaaDoor
set_option linter.unusedSimpArgs false
set_option linter.unusedVariables false
open Go.RowKit

abbrev argsD (l : List Ex) : D := .sl 7 (l.map Ex.cs)
set_option maxHeartbeats 1000000 in
theorem size_pc : ∀ (f : Nat) (x : Ex) (d : Nat), x.deep ≤ f → d + x.deep ≤ 8 → x.num ≤ 40 → PC Tryd.prog 45 [.ag x.cs, iD d] (.tu [iD x.num, bD true])
  | 0, x, d, hf, _, _ => absurd hf (by have := x.deep_pos; omega)
  | f + 1, x, d, hf, hd8, hn => by
    have ih := size_pc f
    have hdp := fun a => Ex.deep_arg (x := x) (a := a)
    have hxp := x.deep_pos
    have hnum := x.num_eq
    have hal := x.args_len
    have hn2 : 1 + numL x.args ≤ 40 := by omega
    rw [hnum, Ex.cs_eq]
    clear hn hnum
    generalize x.op = op
    generalize x.val = v
    generalize x.nam = nm
    generalize x.args = l at *
    refine pc_of_aw Tryd.func45 rfl (by kernel_rfl) mixed (by kernel_rfl) (by rw [Tryd.ntmps45]; exact Nat.le_of_ble_eq_true rfl) Tryd.results45 ?_
    repeat (first | (with_reducible first | apply aw_seq | apply aw_reg | apply rp_nil | apply ae_norm) | ((with_reducible apply rp); first | ((with_reducible apply does_move); (conv => lhs; whnf)) | ((with_reducible apply does_assign); (conv => lhs; whnf)) | ((with_reducible apply does_gt); exact rfl; exact rfl)) | ((with_reducible apply rp1); ((with_reducible apply does_box_ag); exact rfl; exact rfl)))
    refine aw_cond rfl (fun hd => absurd hd (by simp; omega)) (fun hd => ?_)
    clear hd
    repeat (first | (with_reducible first | apply aw_seq | apply aw_reg | apply rp_nil | apply ae_norm | apply aw_block | apply aw_skip) | ((with_reducible apply rp); first | ((with_reducible apply does_move); (conv => lhs; whnf)) | ((with_reducible apply does_assign); (conv => lhs; whnf)) | ((with_reducible apply does_fieldAddr); exact tyOk rfl; exact rfl; exact rfl; decide; exact rfl) | ((with_reducible apply does_load_var); exact tyOk rfl; exact rfl; exact rfl; exact rfl; exact rfl) | ((with_reducible apply does_len_map); exact tyOk rfl; exact rfl; exact rfl)))
    refine aw_loop (fun m s => ∃ k, k ≤ l.length ∧ m = l.length - k ∧ s = ⟨[(1, .d (iD d)), (6, .d (iD (1 + numL (l.take k) : Nat))), (14, .d (argsD l)), (15, .d (iD l.length)), (16, .d (iD k))], []⟩) _ _ ?_ ⟨0, by omega, rfl, rfl⟩ ?_
    · refine forget_of [] (by repeat' (first | exact ks_nil | (refine ks_cons rfl (by exact SubA.refl _) ?_))) (by repeat' exact trivial) rfl (by repeat' (first | exact trivial | refine And.intro ?_ ?_)) (by repeat' (first | exact trivial | refine And.intro ?_ ?_))
    · rintro m s ⟨k, hk, rfl, rfl⟩
      repeat (first | (with_reducible first | apply aw_seq | apply aw_reg | apply rp_nil | apply ae_norm) | ((with_reducible apply rp); ((with_reducible apply does_lt); exact rfl; exact rfl)))
      refine aw_cond rfl (fun hd => ?_) (fun hd => ?_)
      · have hlt : k < l.length := by simp at hd; omega
        clear hd
        obtain ⟨a, ha⟩ : ∃ a, l[k]? = some a := ⟨_, List.getElem?_eq_getElem hlt⟩
        have ha2 : (l.map Ex.cs)[k]? = some a.cs := by rw [List.getElem?_map, ha]; rfl
        have hm := hdp a (List.mem_of_getElem? ha)
        have ht : numL (l.take (k + 1)) = numL (l.take k) + a.num := by rw [List.take_add_one, ha, numL_app]; rfl
        have hle := numL_le l (k + 1)
        have p1 := ih a (d + 1) (by omega) (by omega) (by omega)
        have hcl := a.cs_eq
        generalize a.num = an at *
        generalize numL (l.take k) = q at *
        generalize a.cs = acs at *
        subst hcl
        repeat (first | (with_reducible first | apply aw_seq | apply aw_reg | apply rp_nil | apply ae_norm | apply aw_block | apply aw_skip) | ((first | (with_reducible apply rp) | ((with_reducible apply rpG); exact rfl; exact gval_f rfl; (focus repeat' (first | exact trivial | exact fun h => h | refine And.intro ?_ ?_)); intro hgd; have hgd0 := hgd; (try simp only [decide_eq_true_eq, Bool.and_eq_true, Bool.not_eq_true', beq_iff_eq] at hgd))); first | ((with_reducible apply does_call_flat); exact rfl; exact rfl; exact (p1); exact rfl) | ((with_reducible apply does_move); (conv => lhs; whnf)) | ((with_reducible apply does_assign); (conv => lhs; whnf)) | ((with_reducible apply does_or); exact rfl; exact rfl; exact rfl; exact fun h => h) | ((with_reducible apply does_load_row); exact tyOk rfl; exact rfl; exact rfl; exact rfl; exact Nat.le_of_ble_eq_true rfl; exact rfl) | ((with_reducible apply does_load_elem_whole); exact tyOk rfl; exact rfl; exact rfl; assumption; exact rfl) | ((with_reducible apply does_index_sl); exact tyOk rfl; exact rfl; exact tyOk rfl; exact rfl; exact rfl; exact rfl; exact rfl; (simp only [List.length_map, List.length_append, List.length_cons, List.length_nil] at *; omega)) | ((with_reducible apply does_gt); exact rfl; exact rfl) | ((with_reducible apply does_add); exact rfl; exact rfl; omega; omega) | ((with_reducible apply does_not); exact rfl) | ((with_reducible apply does_extract); exact rfl; exact rfl)) | ((with_reducible apply rp1); ((with_reducible apply does_alloc); exact tyOk rfl; exact rfl)) | ((with_reducible apply rpN); ((with_reducible apply does_store_whole); exact tyOk rfl; exact rfl; exact rfl; exact rfl; exact rfl; exact rfl)))
        refine aw_cond rfl (fun hd => absurd hd (by simp; omega)) (fun hd => ?_)
        clear hd
        repeat (first | (with_reducible first | apply aw_reg | apply rp_nil | apply ae_norm | apply be_norm | apply aw_skip) | ((with_reducible apply rp); first | ((with_reducible apply does_move); (conv => lhs; whnf)) | ((with_reducible apply does_add); exact rfl; exact rfl; omega; omega)))
        refine ⟨_, _, ?_, ?_, k + 1, by omega, rfl, rfl⟩
        · omega
        · rw [ht, ← Nat.add_assoc]
          refine forget_of [] (by repeat' (first | exact ks_nil | (refine ks_cons rfl (by exact SubA.refl _) ?_))) (by repeat' exact trivial) rfl (by repeat' (first | exact trivial | refine And.intro ?_ ?_)) (by repeat' (first | exact trivial | refine And.intro ?_ ?_))
      · have hke : k = l.length := by simp at hd; omega
        clear hd
        subst hke
        repeat (first | (with_reducible first | apply aw_seq | apply aw_reg | apply rp_nil | apply ae_norm | apply aw_exit | apply ae_exit | apply be_exit | apply aw_ret | apply re_ret) | ((with_reducible apply rp); first | ((with_reducible apply does_move); (conv => lhs; whnf)) | ((with_reducible apply does_assign); (conv => lhs; whnf))))
        (with_reducible apply ret_ok); (focus (repeat' (first | (with_reducible apply rv_nil) | (with_reducible apply rv_cons) | ((with_reducible apply rv_tmp); exact rfl)))); exact rfl; refine SubD.of_eq ?_
        rw [List.take_length]
        rfl
theorem wants_leaf (op : Nat) (h : op = 1 ∨ op = 2) : PC Tryd.prog 92 [iD op] (iD 0) := by
  rcases h with rfl | rfl
  · refine pc_of_aw Tryd.func92 rfl (by kernel_rfl) mixed (by kernel_rfl) (by rw [Tryd.ntmps92]; exact Nat.le_of_ble_eq_true rfl) Tryd.results92 ?_
    repeat (first | (with_reducible first | apply aw_seq | apply aw_reg | apply rp_nil | apply ae_norm | apply aw_block | apply aw_ret | apply ae_ret | apply be_ret | apply re_ret | apply aw_skip) | ((with_reducible apply rp); first | ((with_reducible apply does_move); (conv => lhs; whnf)) | ((with_reducible apply does_assign); (conv => lhs; whnf)) | ((with_reducible apply does_eq); exact rfl; exact rfl)) | ((with_reducible apply aw_cond); exact rfl; rotate_left; (focus (intro hd; (cases hd; done))); (intro hd; clear hd)))
    (with_reducible apply ret_ok); (focus (repeat' (first | (with_reducible apply rv_nil) | (with_reducible apply rv_cons) | ((with_reducible apply rv_tmp); exact rfl)))); exact rfl; refine SubD.of_eq ?_
    rfl
  · refine pc_of_aw Tryd.func92 rfl (by kernel_rfl) mixed (by kernel_rfl) (by rw [Tryd.ntmps92]; exact Nat.le_of_ble_eq_true rfl) Tryd.results92 ?_
    repeat (first | (with_reducible first | apply aw_seq | apply aw_reg | apply rp_nil | apply ae_norm | apply aw_block | apply aw_ret | apply ae_ret | apply be_ret | apply re_ret) | ((with_reducible apply rp); first | ((with_reducible apply does_move); (conv => lhs; whnf)) | ((with_reducible apply does_assign); (conv => lhs; whnf)) | ((with_reducible apply does_eq); exact rfl; exact rfl)) | ((with_reducible apply aw_cond); exact rfl; (focus (intro hd; (cases hd; done))); (intro hd; clear hd)) | ((with_reducible apply aw_cond); exact rfl; rotate_left; (focus (intro hd; (cases hd; done))); (intro hd; clear hd)))
    (with_reducible apply ret_ok); (focus (repeat' (first | (with_reducible apply rv_nil) | (with_reducible apply rv_cons) | ((with_reducible apply rv_tmp); exact rfl)))); exact rfl; refine SubD.of_eq ?_
    rfl
theorem wants_un (op : Nat) (h : un1 op) : PC Tryd.prog 92 [iD op] (iD 1) := by
  rcases h with rfl | rfl | rfl | rfl
  · refine pc_of_aw Tryd.func92 rfl (by kernel_rfl) mixed (by kernel_rfl) (by rw [Tryd.ntmps92]; exact Nat.le_of_ble_eq_true rfl) Tryd.results92 ?_
    repeat (first | (with_reducible first | apply aw_seq | apply aw_reg | apply rp_nil | apply ae_norm | apply aw_block | apply aw_ret | apply ae_ret | apply be_ret | apply re_ret | apply aw_skip) | ((with_reducible apply rp); first | ((with_reducible apply does_move); (conv => lhs; whnf)) | ((with_reducible apply does_assign); (conv => lhs; whnf)) | ((with_reducible apply does_eq); exact rfl; exact rfl)) | ((with_reducible apply aw_cond); exact rfl; (focus (intro hd; (cases hd; done))); (intro hd; clear hd)) | ((with_reducible apply aw_cond); exact rfl; rotate_left; (focus (intro hd; (cases hd; done))); (intro hd; clear hd)))
    (with_reducible apply ret_ok); (focus (repeat' (first | (with_reducible apply rv_nil) | (with_reducible apply rv_cons) | ((with_reducible apply rv_tmp); exact rfl)))); exact rfl; refine SubD.of_eq ?_
    rfl
  · refine pc_of_aw Tryd.func92 rfl (by kernel_rfl) mixed (by kernel_rfl) (by rw [Tryd.ntmps92]; exact Nat.le_of_ble_eq_true rfl) Tryd.results92 ?_
    repeat (first | (with_reducible first | apply aw_seq | apply aw_reg | apply rp_nil | apply ae_norm | apply aw_block | apply aw_ret | apply ae_ret | apply be_ret | apply re_ret | apply aw_skip) | ((with_reducible apply rp); first | ((with_reducible apply does_move); (conv => lhs; whnf)) | ((with_reducible apply does_assign); (conv => lhs; whnf)) | ((with_reducible apply does_eq); exact rfl; exact rfl)) | ((with_reducible apply aw_cond); exact rfl; (focus (intro hd; (cases hd; done))); (intro hd; clear hd)) | ((with_reducible apply aw_cond); exact rfl; rotate_left; (focus (intro hd; (cases hd; done))); (intro hd; clear hd)))
    (with_reducible apply ret_ok); (focus (repeat' (first | (with_reducible apply rv_nil) | (with_reducible apply rv_cons) | ((with_reducible apply rv_tmp); exact rfl)))); exact rfl; refine SubD.of_eq ?_
    rfl
  · refine pc_of_aw Tryd.func92 rfl (by kernel_rfl) mixed (by kernel_rfl) (by rw [Tryd.ntmps92]; exact Nat.le_of_ble_eq_true rfl) Tryd.results92 ?_
    repeat (first | (with_reducible first | apply aw_seq | apply aw_reg | apply rp_nil | apply ae_norm | apply aw_block | apply aw_ret | apply ae_ret | apply be_ret | apply re_ret | apply aw_skip) | ((with_reducible apply rp); first | ((with_reducible apply does_move); (conv => lhs; whnf)) | ((with_reducible apply does_assign); (conv => lhs; whnf)) | ((with_reducible apply does_eq); exact rfl; exact rfl)) | ((with_reducible apply aw_cond); exact rfl; (focus (intro hd; (cases hd; done))); (intro hd; clear hd)) | ((with_reducible apply aw_cond); exact rfl; rotate_left; (focus (intro hd; (cases hd; done))); (intro hd; clear hd)))
    (with_reducible apply ret_ok); (focus (repeat' (first | (with_reducible apply rv_nil) | (with_reducible apply rv_cons) | ((with_reducible apply rv_tmp); exact rfl)))); exact rfl; refine SubD.of_eq ?_
    rfl
  · refine pc_of_aw Tryd.func92 rfl (by kernel_rfl) mixed (by kernel_rfl) (by rw [Tryd.ntmps92]; exact Nat.le_of_ble_eq_true rfl) Tryd.results92 ?_
    repeat (first | (with_reducible first | apply aw_seq | apply aw_reg | apply rp_nil | apply ae_norm | apply aw_block | apply aw_ret | apply ae_ret | apply be_ret | apply re_ret) | ((with_reducible apply rp); first | ((with_reducible apply does_move); (conv => lhs; whnf)) | ((with_reducible apply does_assign); (conv => lhs; whnf)) | ((with_reducible apply does_eq); exact rfl; exact rfl)) | ((with_reducible apply aw_cond); exact rfl; (focus (intro hd; (cases hd; done))); (intro hd; clear hd)) | ((with_reducible apply aw_cond); exact rfl; rotate_left; (focus (intro hd; (cases hd; done))); (intro hd; clear hd)))
    (with_reducible apply ret_ok); (focus (repeat' (first | (with_reducible apply rv_nil) | (with_reducible apply rv_cons) | ((with_reducible apply rv_tmp); exact rfl)))); exact rfl; refine SubD.of_eq ?_
    rfl
theorem wants_bi (op : Nat) (h : bi2 op) : PC Tryd.prog 92 [iD op] (iD 2) := by
  obtain ⟨h1, h2, h3, h4⟩ := h
  refine pc_of_aw Tryd.func92 rfl (by kernel_rfl) mixed (by kernel_rfl) (by rw [Tryd.ntmps92]; exact Nat.le_of_ble_eq_true rfl) Tryd.results92 ?_
  repeat (first | (with_reducible first | apply aw_seq | apply aw_reg | apply rp_nil | apply ae_norm | apply aw_block | apply be_norm | apply aw_ret | apply re_ret | apply aw_skip) | ((with_reducible apply rp); first | ((with_reducible apply does_move); (conv => lhs; whnf)) | ((with_reducible apply does_assign); (conv => lhs; whnf)) | ((with_reducible apply does_eq); exact rfl; exact rfl)) | ((with_reducible apply aw_cond); exact rfl; (focus (intro hd; (exfalso; simp at hd; omega))); (intro hd; clear hd)))
  (with_reducible apply ret_ok); (focus (repeat' (first | (with_reducible apply rv_nil) | (with_reducible apply rv_cons) | ((with_reducible apply rv_tmp); exact rfl)))); exact rfl; refine SubD.of_eq ?_
  rfl
end Go.Proofs.YtlpnnnmdkglkcaaDoor


/-
  expr.node, nodes, Check of an expression that may be. No condition but its size.
-/
namespace Go.Proofs.YtlpnnnmdkglkcaaDoor
set_option linter.unusedSimpArgs false
set_option linter.unusedVariables false
open Go.RowKit

theorem check_0 : PC Tryd.prog 37 [.ag [iD 0, iD 0, qD 0, strD .empty]] (iD 0) := by
  have c1 := check_pc ⟨0, 0, 0, .empty⟩ (by show ByteArray.empty.size ≤ _; decide)
  rw [Gd.null.chk] at c1
  exact c1
set_option maxHeartbeats 1000000 in
theorem node_lit (v : Vl) (hv : Gd v) (h0 : 0 ≤ v.n) : PC Tryd.prog 75 [.ag (Ex.lit v).cs] (iD 0) := by
  have c1 := check_pc v (by have := hv.size; omega)
  rw [hv.chk] at c1
  have w1 := wants_leaf 1 (.inl rfl)
  obtain ⟨k, n, b, t⟩ := v
  unfold Ex.cs Vl.cs at *
  dsimp only at *
  refine pc_of_aw Tryd.func75 rfl (by kernel_rfl) mixed (by kernel_rfl) (by rw [Tryd.ntmps75]; exact Nat.le_of_ble_eq_true rfl) Tryd.results75 ?_
  repeat (first | (with_reducible first | apply aw_seq | apply aw_reg | apply rp_nil | apply ae_norm | apply aw_regD | apply aw_ret | apply re_ret | apply aw_skip) | ((with_reducible apply dr_nil); (first | kernel_rfl | exact rfl)) | ((first | (with_reducible first | apply rp | apply dr) | ((with_reducible apply rpG); exact rfl; (first | exact gval_t rfl | exact gval_f rfl | exact gval_gt rfl | exact gval_gf rfl); (focus repeat' (first | exact trivial | exact fun h => h | refine And.intro ?_ ?_ | (intro h; simp_all))); intro hgd; have hgd0 := hgd; (try simp only [decide_eq_true_eq, Bool.and_eq_true, Bool.not_eq_true', beq_iff_eq] at hgd))); first | ((with_reducible apply does_call_flat); exact rfl; exact rfl; exact (w1); exact rfl) | (exact does_sne_to (c := false) rfl rfl (by rw [emp_eq]; rfl)) | ((with_reducible apply does_call_flat); exact rfl; exact rfl; exact (c1); exact rfl) | ((with_reducible apply does_move); (conv => lhs; whnf)) | ((with_reducible apply does_assign); (conv => lhs; whnf)) | ((with_reducible apply does_and); exact rfl; exact rfl; exact rfl; (first | exact trivial | exact fun h => h)) | ((with_reducible apply does_or); exact rfl; exact rfl; exact rfl; (first | exact trivial | exact fun h => h)) | ((with_reducible apply does_pickF); exact rfl; (first | assumption | decide); (conv => lhs; whnf)) | ((with_reducible apply does_fieldAddr); exact tyOk rfl; exact rfl; exact rfl; decide; exact rfl) | ((with_reducible apply does_load_var); exact tyOk rfl; exact rfl; exact rfl; exact rfl; exact rfl) | ((with_reducible apply does_load_row); exact tyOk rfl; exact rfl; exact rfl; exact rfl; exact Nat.le_of_ble_eq_true rfl; exact rfl) | ((with_reducible apply does_eq); exact rfl; exact rfl) | ((with_reducible apply does_ne); exact rfl; exact rfl) | ((with_reducible apply does_lt); exact rfl; exact rfl) | ((with_reducible apply does_gt); exact rfl; exact rfl) | ((with_reducible apply does_neS); exact rfl; exact rfl; exact tgOk rfl; exact rfl) | ((with_reducible apply does_bne); exact tyOk rfl; exact rfl; exact rfl; exact rfl; exact rfl) | ((with_reducible apply does_len_sl); exact tyOk rfl; exact rfl; exact rfl) | ((with_reducible apply does_zeroS); exact tyOk rfl; exact rfl; exact rfl) | ((with_reducible apply does_build); exact tyOk rfl; exact rfl; exact rfl; (focus repeat' (first | exact rfl | refine ⟨_, _, rfl, rfl, Nat.le_of_ble_eq_true rfl, rfl, ?_⟩)); exact rfl)) | ((with_reducible apply rp1); ((with_reducible apply does_box_ag); exact rfl; exact rfl)) | ((with_reducible apply aw_cond); exact rfl; (focus (intro hd; (first | (cases hd; done) | (exfalso; simp at hd; omega)))); (intro hd; clear hd)) | ((first | (with_reducible apply rpGF) | (with_reducible apply drGF)); exact rfl; (first | exact gval_t rfl | exact gval_f rfl | exact gval_gt rfl | exact gval_gf rfl); (first | assumption | decide | exact rfl); (focus repeat' (first | exact trivial | exact fun h => h | refine And.intro ?_ ?_ | (intro h; simp_all)))) | ((first | (with_reducible apply rpGP) | (with_reducible apply drGP)); exact rfl; (first | exact gval_t rfl | exact gval_f rfl | exact gval_gt rfl | exact gval_gf rfl); (focus repeat' (first | exact trivial | exact fun h => h | refine And.intro ?_ ?_ | (intro h; simp_all))); (intro hgd; have hgd0 := hgd; (try simp only [decide_eq_true_eq, Bool.and_eq_true, Bool.not_eq_true', beq_iff_eq] at hgd); first | ((with_reducible apply does_or); exact rfl; exact rfl; exact rfl; (first | exact trivial | exact fun h => h)) | ((with_reducible apply does_and); exact rfl; exact rfl; exact rfl; (first | exact trivial | exact fun h => h)))))
  (with_reducible apply ret_ok); (focus (repeat' (first | (with_reducible apply rv_nil) | (with_reducible apply rv_cons) | ((with_reducible apply rv_tmp); exact rfl)))); exact rfl; refine SubD.of_eq ?_
  rfl
set_option maxHeartbeats 1000000 in
theorem node_col (n : ByteArray) (h : NameOk n) : PC Tryd.prog 75 [.ag (Ex.col n).cs] (iD 0) := by
  have w1 := wants_leaf 2 (.inr rfl)
  have hn := name_nil h
  have n1 := name_pc n h
  have c1 := check_0
  unfold Ex.cs at *
  refine pc_of_aw Tryd.func75 rfl (by kernel_rfl) mixed (by kernel_rfl) (by rw [Tryd.ntmps75]; exact Nat.le_of_ble_eq_true rfl) Tryd.results75 ?_
  repeat (first | (with_reducible first | apply aw_seq | apply aw_reg | apply rp_nil | apply ae_norm | apply aw_regD | apply aw_ret | apply re_ret | apply aw_skip) | ((with_reducible apply dr_nil); (first | kernel_rfl | exact rfl)) | ((first | (with_reducible first | apply rp | apply dr) | ((with_reducible apply rpG); exact rfl; (first | exact gval_t rfl | exact gval_f rfl | exact gval_gt rfl | exact gval_gf rfl); (focus repeat' (first | exact trivial | exact fun h => h | refine And.intro ?_ ?_)); intro hgd; have hgd0 := hgd; (try simp only [decide_eq_true_eq, Bool.and_eq_true, Bool.not_eq_true', beq_iff_eq] at hgd))); first | ((with_reducible apply does_call_flat); exact rfl; exact rfl; exact (w1); exact rfl) | (exact does_sne_to (c := true) rfl rfl (by rw [hn]; rfl)) | ((with_reducible apply does_call_flat); exact rfl; exact rfl; exact (n1); exact rfl) | ((with_reducible apply does_call_flat); exact rfl; exact rfl; exact (c1); exact rfl) | ((with_reducible apply does_move); (conv => lhs; whnf)) | ((with_reducible apply does_assign); (conv => lhs; whnf)) | ((with_reducible apply does_and); exact rfl; exact rfl; exact rfl; (first | exact trivial | exact fun h => h)) | ((with_reducible apply does_or); exact rfl; exact rfl; exact rfl; (first | exact trivial | exact fun h => h)) | ((with_reducible apply does_fieldAddr); exact tyOk rfl; exact rfl; exact rfl; decide; exact rfl) | ((with_reducible apply does_load_var); exact tyOk rfl; exact rfl; exact rfl; exact rfl; exact rfl) | ((with_reducible apply does_load_row); exact tyOk rfl; exact rfl; exact rfl; exact rfl; exact Nat.le_of_ble_eq_true rfl; exact rfl) | ((with_reducible apply does_eq); exact rfl; exact rfl) | ((with_reducible apply does_ne); exact rfl; exact rfl) | ((with_reducible apply does_lt); exact rfl; exact rfl) | ((with_reducible apply does_gt); exact rfl; exact rfl) | ((with_reducible apply does_neS); exact rfl; exact rfl; exact tgOk rfl; exact rfl) | ((with_reducible apply does_bne); exact tyOk rfl; exact rfl; exact rfl; exact rfl; exact rfl) | ((with_reducible apply does_len_sl); exact tyOk rfl; exact rfl; exact rfl) | ((with_reducible apply does_zeroS); exact tyOk rfl; exact rfl; exact rfl) | ((with_reducible apply does_build); exact tyOk rfl; exact rfl; exact rfl; (focus repeat' (first | exact rfl | refine ⟨_, _, rfl, rfl, Nat.le_of_ble_eq_true rfl, rfl, ?_⟩)); exact rfl)) | ((with_reducible apply rp1); ((with_reducible apply does_box_ag); exact rfl; exact rfl)) | ((with_reducible apply aw_cond); exact rfl; (focus (intro hd; (first | (cases hd; done) | (exfalso; simp at hd; done)))); (intro hd; clear hd)))
  (with_reducible apply ret_ok); (focus (repeat' (first | (with_reducible apply rv_nil) | (with_reducible apply rv_cons) | ((with_reducible apply rv_tmp); exact rfl)))); exact rfl; refine SubD.of_eq ?_
  rfl
set_option maxHeartbeats 1000000 in
theorem node_un (op : Nat) (a : Ex) (h : un1 op) : PC Tryd.prog 75 [.ag (Ex.un op a).cs] (iD 0) := by
  have w1 := wants_un op h
  have c1 := check_0
  have hh : op = 3 ∨ op = 4 ∨ op = 17 ∨ op = 18 := h
  have ho2 : ((op : Int) == 2) = false := beq_eq_false_iff_ne.2 (by omega)
  unfold Ex.cs at *
  generalize a.cs = ac
  clear h
  refine pc_of_aw Tryd.func75 rfl (by kernel_rfl) mixed (by kernel_rfl) (by rw [Tryd.ntmps75]; exact Nat.le_of_ble_eq_true rfl) Tryd.results75 ?_
  repeat (first | (with_reducible first | apply aw_seq | apply aw_reg | apply rp_nil | apply ae_norm | apply aw_regD | apply aw_ret | apply re_ret | apply aw_skip) | ((with_reducible apply dr_nil); (first | kernel_rfl | exact rfl)) | ((first | (with_reducible first | apply rp | apply dr) | ((with_reducible apply rpG); exact rfl; (first | exact gval_t rfl | exact gval_f rfl | exact gval_gt rfl | exact gval_gf rfl); (focus repeat' (first | exact trivial | exact fun h => h | refine And.intro ?_ ?_ | (intro h; (first | (rw [h]; rfl) | simp_all)))); intro hgd; have hgd0 := hgd; (try simp only [decide_eq_true_eq, Bool.and_eq_true, Bool.not_eq_true', beq_iff_eq] at hgd))); first | ((with_reducible apply does_call_flat); exact rfl; exact rfl; exact (w1); exact rfl) | (exact does_sne_to (c := false) rfl rfl (by rw [emp_eq]; rfl)) | ((with_reducible apply does_call_flat); exact rfl; exact rfl; exact (c1); exact rfl) | ((with_reducible apply does_move); (conv => lhs; whnf)) | ((with_reducible apply does_assign); (conv => lhs; whnf)) | ((with_reducible apply does_and); exact rfl; exact rfl; exact rfl; (first | exact trivial | exact fun h => h | (intro h; (rw [hgd0, h]; rfl)))) | ((with_reducible apply does_or); exact rfl; exact rfl; exact rfl; (first | exact trivial | exact fun h => h | (intro h; (rw [hgd0, h]; rfl)))) | ((with_reducible apply does_pickF); exact rfl; (first | assumption | decide); (conv => lhs; whnf)) | ((with_reducible apply does_fieldAddr); exact tyOk rfl; exact rfl; exact rfl; decide; exact rfl) | ((with_reducible apply does_load_var); exact tyOk rfl; exact rfl; exact rfl; exact rfl; exact rfl) | ((with_reducible apply does_load_row); exact tyOk rfl; exact rfl; exact rfl; exact rfl; exact Nat.le_of_ble_eq_true rfl; exact rfl) | ((with_reducible apply does_eq); exact rfl; exact rfl) | ((with_reducible apply does_ne); exact rfl; exact rfl) | ((with_reducible apply does_lt); exact rfl; exact rfl) | ((with_reducible apply does_gt); exact rfl; exact rfl) | ((with_reducible apply does_neS); exact rfl; exact rfl; exact tgOk rfl; exact rfl) | ((with_reducible apply does_bne); exact tyOk rfl; exact rfl; exact rfl; exact rfl; exact rfl) | ((with_reducible apply does_len_sl); exact tyOk rfl; exact rfl; exact rfl) | ((with_reducible apply does_zeroS); exact tyOk rfl; exact rfl; exact rfl) | ((with_reducible apply does_build); exact tyOk rfl; exact rfl; exact rfl; (focus repeat' (first | exact rfl | refine ⟨_, _, rfl, rfl, Nat.le_of_ble_eq_true rfl, rfl, ?_⟩)); exact rfl)) | ((with_reducible apply rp1); ((with_reducible apply does_box_ag); exact rfl; exact rfl)) | ((with_reducible apply aw_cond); exact rfl; (focus (intro hd; (first | (cases hd; done) | (exfalso; simp at hd; done) | (exfalso; simp at hd; omega)))); (intro hd; clear hd)) | ((first | (with_reducible apply rpGF) | (with_reducible apply drGF)); exact rfl; (first | exact gval_t rfl | exact gval_f rfl | exact gval_gt rfl | exact gval_gf rfl); (first | assumption | decide | exact rfl); (focus repeat' (first | exact trivial | exact fun h => h | refine And.intro ?_ ?_ | (intro h; (first | (rw [h]; rfl) | simp_all))))) | ((first | (with_reducible apply rpGP) | (with_reducible apply drGP)); exact rfl; (first | exact gval_t rfl | exact gval_f rfl | exact gval_gt rfl | exact gval_gf rfl); (focus repeat' (first | exact trivial | exact fun h => h | refine And.intro ?_ ?_ | (intro h; (first | (rw [h]; rfl) | simp_all)))); (intro hgd; have hgd0 := hgd; (try simp only [decide_eq_true_eq, Bool.and_eq_true, Bool.not_eq_true', beq_iff_eq] at hgd); first | ((with_reducible apply does_or); exact rfl; exact rfl; exact rfl; (first | exact trivial | exact fun h => h | (intro h; (rw [hgd0, h]; rfl)))) | ((with_reducible apply does_and); exact rfl; exact rfl; exact rfl; (first | exact trivial | exact fun h => h | (intro h; (rw [hgd0, h]; rfl)))))))
  (with_reducible apply ret_ok); (focus (repeat' (first | (with_reducible apply rv_nil) | (with_reducible apply rv_cons) | ((with_reducible apply rv_tmp); exact rfl)))); exact rfl; refine SubD.of_eq ?_
  rfl
set_option maxHeartbeats 1000000 in
theorem node_bi (op : Nat) (a b : Ex) (h : bi2 op) : PC Tryd.prog 75 [.ag (Ex.bi op a b).cs] (iD 0) := by
  have w1 := wants_bi op h
  have c1 := check_0
  obtain ⟨h1, h2, h3, h4⟩ := h
  have ho2 : ((op : Int) == 2) = false := beq_eq_false_iff_ne.2 (by omega)
  unfold Ex.cs at *
  generalize a.cs = ac
  generalize b.cs = bc
  refine pc_of_aw Tryd.func75 rfl (by kernel_rfl) mixed (by kernel_rfl) (by rw [Tryd.ntmps75]; exact Nat.le_of_ble_eq_true rfl) Tryd.results75 ?_
  repeat (first | (with_reducible first | apply aw_seq | apply aw_reg | apply rp_nil | apply ae_norm | apply aw_regD | apply aw_ret | apply re_ret | apply aw_skip) | ((with_reducible apply dr_nil); (first | kernel_rfl | exact rfl)) | ((first | (with_reducible first | apply rp | apply dr) | ((with_reducible apply rpG); exact rfl; (first | exact gval_t rfl | exact gval_f rfl | exact gval_gt rfl | exact gval_gf rfl); (focus repeat' (first | exact trivial | exact fun h => h | refine And.intro ?_ ?_ | (intro h; (first | (rw [h]; rfl) | simp_all)))); intro hgd; have hgd0 := hgd; (try simp only [decide_eq_true_eq, Bool.and_eq_true, Bool.not_eq_true', beq_iff_eq] at hgd))); first | ((with_reducible apply does_call_flat); exact rfl; exact rfl; exact (w1); exact rfl) | (exact does_sne_to (c := false) rfl rfl (by rw [emp_eq]; rfl)) | ((with_reducible apply does_call_flat); exact rfl; exact rfl; exact (c1); exact rfl) | ((with_reducible apply does_move); (conv => lhs; whnf)) | ((with_reducible apply does_assign); (conv => lhs; whnf)) | ((with_reducible apply does_and); exact rfl; exact rfl; exact rfl; (first | exact trivial | exact fun h => h | (intro h; (rw [hgd0, h]; rfl)))) | ((with_reducible apply does_or); exact rfl; exact rfl; exact rfl; (first | exact trivial | exact fun h => h | (intro h; (rw [hgd0, h]; rfl)))) | ((with_reducible apply does_pickF); exact rfl; (first | assumption | decide); (conv => lhs; whnf)) | ((with_reducible apply does_fieldAddr); exact tyOk rfl; exact rfl; exact rfl; decide; exact rfl) | ((with_reducible apply does_load_var); exact tyOk rfl; exact rfl; exact rfl; exact rfl; exact rfl) | ((with_reducible apply does_load_row); exact tyOk rfl; exact rfl; exact rfl; exact rfl; exact Nat.le_of_ble_eq_true rfl; exact rfl) | ((with_reducible apply does_eq); exact rfl; exact rfl) | ((with_reducible apply does_ne); exact rfl; exact rfl) | ((with_reducible apply does_lt); exact rfl; exact rfl) | ((with_reducible apply does_gt); exact rfl; exact rfl) | ((with_reducible apply does_neS); exact rfl; exact rfl; exact tgOk rfl; exact rfl) | ((with_reducible apply does_bne); exact tyOk rfl; exact rfl; exact rfl; exact rfl; exact rfl) | ((with_reducible apply does_len_sl); exact tyOk rfl; exact rfl; exact rfl) | ((with_reducible apply does_zeroS); exact tyOk rfl; exact rfl; exact rfl) | ((with_reducible apply does_build); exact tyOk rfl; exact rfl; exact rfl; (focus repeat' (first | exact rfl | refine ⟨_, _, rfl, rfl, Nat.le_of_ble_eq_true rfl, rfl, ?_⟩)); exact rfl)) | ((with_reducible apply rp1); ((with_reducible apply does_box_ag); exact rfl; exact rfl)) | ((with_reducible apply aw_cond); exact rfl; (focus (intro hd; (first | (cases hd; done) | (exfalso; simp at hd; done) | (exfalso; simp at hd; omega)))); (intro hd; clear hd)) | ((first | (with_reducible apply rpGF) | (with_reducible apply drGF)); exact rfl; (first | exact gval_t rfl | exact gval_f rfl | exact gval_gt rfl | exact gval_gf rfl); (first | assumption | decide | exact rfl); (focus repeat' (first | exact trivial | exact fun h => h | refine And.intro ?_ ?_ | (intro h; (first | (rw [h]; rfl) | simp_all))))) | ((first | (with_reducible apply rpGP) | (with_reducible apply drGP)); exact rfl; (first | exact gval_t rfl | exact gval_f rfl | exact gval_gt rfl | exact gval_gf rfl); (focus repeat' (first | exact trivial | exact fun h => h | refine And.intro ?_ ?_ | (intro h; (first | (rw [h]; rfl) | simp_all)))); (intro hgd; have hgd0 := hgd; (try simp only [decide_eq_true_eq, Bool.and_eq_true, Bool.not_eq_true', beq_iff_eq] at hgd); first | ((with_reducible apply does_or); exact rfl; exact rfl; exact rfl; (first | exact trivial | exact fun h => h | (intro h; (rw [hgd0, h]; rfl)))) | ((with_reducible apply does_and); exact rfl; exact rfl; exact rfl; (first | exact trivial | exact fun h => h | (intro h; (rw [hgd0, h]; rfl)))))))
  (with_reducible apply ret_ok); (focus (repeat' (first | (with_reducible apply rv_nil) | (with_reducible apply rv_cons) | ((with_reducible apply rv_tmp); exact rfl)))); exact rfl; refine SubD.of_eq ?_
  rfl
theorem node_pc (x : Ex) (h : x.ok) : PC Tryd.prog 75 [.ag x.cs] (iD 0) := by
  cases x with
  | lit v => exact node_lit v h.1 h.2
  | col n => exact node_col n h
  | un op a => exact node_un op a h.1
  | bi op a b => exact node_bi op a b h.1
set_option maxHeartbeats 1000000 in
theorem nodes_pc : ∀ (f : Nat) (x : Ex), x.deep ≤ f → x.ok → PC Tryd.prog 46 [.ag x.cs] (iD 0)
  | 0, x, hf, _ => absurd hf (by have := x.deep_pos; omega)
  | f + 1, x, hf, hok => by
    have ih := nodes_pc f
    have hdp := fun a => Ex.deep_arg (x := x) (a := a)
    have hop := fun a => Ex.ok_arg (x := x) (a := a) hok
    have n1 := node_pc x hok
    have hal := x.args_len
    clear hok
    have hxd : x.deep ≤ f + 1 := hf
    generalize x.deep = xd at *
    rw [Ex.cs_eq] at *
    generalize x.op = op at *
    generalize x.val = v at *
    generalize x.nam = nm at *
    generalize x.args = l at *
    refine pc_of_aw Tryd.func46 rfl (by kernel_rfl) mixed (by kernel_rfl) (by rw [Tryd.ntmps46]; exact Nat.le_of_ble_eq_true rfl) Tryd.results46 ?_
    repeat (first | (with_reducible first | apply aw_seq | apply aw_reg | apply rp_nil | apply ae_norm | apply aw_block | apply aw_skip) | ((with_reducible apply rp); first | ((with_reducible apply does_call_flat); exact rfl; exact rfl; exact (n1); exact rfl) | ((with_reducible apply does_move); (conv => lhs; whnf)) | ((with_reducible apply does_assign); (conv => lhs; whnf)) | ((with_reducible apply does_fieldAddr); exact tyOk rfl; exact rfl; exact rfl; decide; exact rfl) | ((with_reducible apply does_load_var); exact tyOk rfl; exact rfl; exact rfl; exact rfl; exact rfl) | ((with_reducible apply does_load_row); exact tyOk rfl; exact rfl; exact rfl; exact rfl; exact Nat.le_of_ble_eq_true rfl; exact rfl) | ((with_reducible apply does_ne); exact rfl; exact rfl) | ((with_reducible apply does_len_map); exact tyOk rfl; exact rfl; exact rfl)) | ((with_reducible apply rp1); ((with_reducible apply does_box_ag); exact rfl; exact rfl)) | ((with_reducible apply aw_cond); exact rfl; (focus (intro hd; (cases hd; done))); (intro hd; clear hd)))
    refine aw_loop (fun m s => ∃ k, k ≤ l.length ∧ m = l.length - k ∧ s = ⟨[(13, .d (argsD l)), (14, .d (iD l.length)), (15, .d (iD k))], []⟩) _ _ ?_ ⟨0, by omega, rfl, rfl⟩ ?_
    · refine forget_of [] (by repeat' (first | exact ks_nil | (refine ks_cons rfl (by exact SubA.refl _) ?_))) (by repeat' exact trivial) rfl (by repeat' (first | exact trivial | refine And.intro ?_ ?_)) (by repeat' (first | exact trivial | refine And.intro ?_ ?_))
    · rintro m s ⟨k, hk, rfl, rfl⟩
      repeat (first | (with_reducible first | apply aw_seq | apply aw_reg | apply rp_nil | apply ae_norm) | ((with_reducible apply rp); ((with_reducible apply does_lt); exact rfl; exact rfl)))
      refine aw_cond rfl (fun hd => ?_) (fun hd => ?_)
      · have hlt : k < l.length := by simp at hd; omega
        clear hd n1
        obtain ⟨a, ha⟩ : ∃ a, l[k]? = some a := ⟨_, List.getElem?_eq_getElem hlt⟩
        have ha2 : (l.map Ex.cs)[k]? = some a.cs := by rw [List.getElem?_map, ha]; rfl
        have hm := hdp a (List.mem_of_getElem? ha)
        have p1 := ih a (by omega) (hop a (List.mem_of_getElem? ha))
        have hcl := a.cs_eq
        generalize a.cs = acs at *
        subst hcl
        repeat (first | (with_reducible first | apply aw_seq | apply aw_reg | apply rp_nil | apply ae_norm | apply aw_block | apply be_norm | apply aw_skip) | ((with_reducible apply rp); first | ((with_reducible apply does_call_flat); exact rfl; exact rfl; exact (p1); exact rfl) | ((with_reducible apply does_move); (conv => lhs; whnf)) | ((with_reducible apply does_assign); (conv => lhs; whnf)) | ((with_reducible apply does_load_row); exact tyOk rfl; exact rfl; exact rfl; exact rfl; exact Nat.le_of_ble_eq_true rfl; exact rfl) | ((with_reducible apply does_load_elem_whole); exact tyOk rfl; exact rfl; exact rfl; assumption; exact rfl) | ((with_reducible apply does_index_sl); exact tyOk rfl; exact rfl; exact tyOk rfl; exact rfl; exact rfl; exact rfl; exact rfl; (simp only [List.length_map, List.length_append, List.length_cons, List.length_nil] at *; omega)) | ((with_reducible apply does_ne); exact rfl; exact rfl) | ((with_reducible apply does_add); exact rfl; exact rfl; omega; omega)) | ((with_reducible apply rp1); ((with_reducible apply does_alloc); exact tyOk rfl; exact rfl)) | ((with_reducible apply rpN); ((with_reducible apply does_store_whole); exact tyOk rfl; exact rfl; exact rfl; exact rfl; exact rfl; exact rfl)) | ((with_reducible apply aw_cond); exact rfl; (focus (intro hd; (cases hd; done))); (intro hd; clear hd)))
        refine ⟨_, _, ?_, ?_, k + 1, by omega, rfl, rfl⟩
        · omega
        · refine forget_of [] (by repeat' (first | exact ks_nil | (refine ks_cons rfl (by exact SubA.refl _) ?_))) (by repeat' exact trivial) rfl (by repeat' (first | exact trivial | refine And.intro ?_ ?_)) (by repeat' (first | exact trivial | refine And.intro ?_ ?_))
      · have hke : k = l.length := by simp at hd; omega
        clear hd
        subst hke
        repeat (first | (with_reducible first | apply aw_seq | apply aw_reg | apply rp_nil | apply ae_norm | apply aw_exit | apply ae_exit | apply be_exit | apply aw_ret | apply re_ret) | ((with_reducible apply rp); ((with_reducible apply does_assign); (conv => lhs; whnf))))
        (with_reducible apply ret_ok); (focus (repeat' (first | (with_reducible apply rv_nil) | (with_reducible apply rv_cons) | ((with_reducible apply rv_tmp); exact rfl)))); exact rfl; refine SubD.of_eq ?_
        rfl
theorem expr_check (x : Ex) (hok : x.ok) (hd : x.deep ≤ 7) (hn : x.num ≤ 40) : PC Tryd.prog 27 [.ag x.cs] (iD 0) := by
  have s1 := size_pc x.deep x 1 (Nat.le_refl _) (by omega) hn
  have n1 := nodes_pc x.deep x (Nat.le_refl _) hok
  clear hok hd hn
  generalize x.num = xn at *
  rw [Ex.cs_eq] at *
  refine pc_of_aw Tryd.func27 rfl (by kernel_rfl) mixed (by kernel_rfl) (by rw [Tryd.ntmps27]; exact Nat.le_of_ble_eq_true rfl) Tryd.results27 ?_
  repeat (first | (with_reducible first | apply aw_seq | apply aw_reg | apply rp_nil | apply ae_norm | apply aw_ret | apply re_ret | apply aw_skip) | ((with_reducible apply rp); first | ((with_reducible apply does_call_flat); exact rfl; exact rfl; exact (s1); exact rfl) | ((with_reducible apply does_call_flat); exact rfl; exact rfl; exact (n1); exact rfl) | ((with_reducible apply does_move); (conv => lhs; whnf)) | ((with_reducible apply does_assign); (conv => lhs; whnf)) | ((with_reducible apply does_load_row); exact tyOk rfl; exact rfl; exact rfl; exact rfl; exact Nat.le_of_ble_eq_true rfl; exact rfl) | ((with_reducible apply does_not); exact rfl) | ((with_reducible apply does_extract); exact rfl; exact rfl)) | ((with_reducible apply rp1); ((with_reducible apply does_box_ag); exact rfl; exact rfl)) | ((with_reducible apply aw_cond); exact rfl; (focus (intro hd; (cases hd; done))); (intro hd; clear hd)))
  (with_reducible apply ret_ok); (focus (repeat' (first | (with_reducible apply rv_nil) | (with_reducible apply rv_cons) | ((with_reducible apply rv_tmp); exact rfl)))); exact rfl; refine SubD.of_eq ?_
  rfl
end Go.Proofs.YtlpnnnmdkglkcaaDoor

