/-
  slots.up, Root, of what fits. No condition but the sizes.
-/
import Derived.Test.YtagbajdjpfafoaaDoorZSlots
namespace Go.Proofs.YtagbajdjpfafoaaDoor
set_option linter.unusedSimpArgs false
set_option linter.unusedVariables false
open Go.RowKit

set_option maxHeartbeats 1000000 in
theorem up_pc (m : Int) (hm : m = 1 ∨ m = 2) (row : List (List UInt8)) (h : Nat) (hl : row.length = 2 * h) (hh : h ≤ 1000) (hw : wt row ≤ 16777216) : PC Tryd.prog 38 [iD m, byL row] (.tu [byL (upF m row), iD 0]) := by
  have hul := upF_len m h row hl
  refine pc_of_aw Tryd.func38 rfl (by kernel_rfl) mixed (by kernel_rfl) (by rw [Tryd.ntmps38]; exact Nat.le_of_ble_eq_true rfl) Tryd.results38 ?_
  repeat (first | (with_reducible apply aw_seq) | (with_reducible apply aw_reg) | (with_reducible apply rp_nil) | (with_reducible apply ae_norm) | (with_reducible apply aw_block) | ((with_reducible apply be_other); exact rfl) | ((with_reducible apply dr_nil); first | kernel_rfl | exact rfl) | ((first | (with_reducible apply rp) | (with_reducible apply dr)); first | ((with_reducible apply does_assign); (conv => lhs; whnf))))
  refine aw_loop (fun n s => ∃ k, k ≤ h ∧ n = h - k ∧ s = ⟨[(0, .d (iD m)), (1, .d (byL row)), (6, .ow 1000 k), (7, .d (iD ((2 * k : Nat) : Int)))], [(1000, .row 31 1 (((upF m row).take k).map fun p => [byD p]))]⟩) _ _ ?_ ⟨0, by omega, rfl, rfl⟩ ?_
  · refine Ent.trans (ent_nil 6 1000 31 1 rfl rfl) ?_
    refine forget_of [] (by repeat' (first | exact ks_nil | (refine ks_cons rfl (by first | exact SubA.refl _ | exact SubA.d (SubD.nil _) | exact subA_ow (by first | rfl | (simp; done) | (simp; omega)) | exact subA_i (by first | rfl | (simp; done) | (simp; omega) | omega) | (refine SubA.of_eq ?_; first | rfl | (simp; done) | (simp; omega))) ?_))) (by repeat' (first | exact trivial | exact rfl | exact kb_d rfl | refine And.intro ?_ ?_)) rfl (by repeat' (first | exact trivial | exact insB_map _ | exact inB_ow rfl | exact inB_px rfl | exact inB_pr rfl | refine And.intro ?_ ?_)) (by repeat' (first | exact trivial | exact insB_map _ | exact inB_ow rfl | exact inB_px rfl | exact inB_pr rfl | refine And.intro ?_ ?_))
  · rintro n s1 ⟨k, hk, rfl, rfl⟩
    have hol : (((upF m row).take k).map fun p => [byD p]).length = k := by simp; omega
    have hst : ∀ a b, row[2 * k]? = some a → row[2 * k + 1]? = some b → ((upF m row).take (k + 1)).map (fun p => [byD p]) = ((upF m row).take k).map (fun p => [byD p]) ++ [[byD (dig m 2 [a, b])]] := fun a b ha hb => by
      rw [upF_take m k row a b ha hb]; simp
    obtain ⟨o, ho⟩ : ∃ o, ((upF m row).take k).map (fun p => [byD p]) = o := ⟨_, rfl⟩
    rw [ho] at hol hst ⊢
    repeat (first | (with_reducible apply aw_seq) | (with_reducible apply aw_reg) | (with_reducible apply rp_nil) | (with_reducible apply ae_norm) | ((with_reducible apply be_other); exact rfl) | ((with_reducible apply dr_nil); first | kernel_rfl | exact rfl) | ((first | (with_reducible apply rp) | (with_reducible apply dr)); first | (exact does_add_to (z := ((2 * k + 1 : Nat) : Int)) rfl rfl (by omega) (by omega) (by omega)) | ((with_reducible apply does_move); (conv => lhs; whnf)) | ((with_reducible apply does_lt); exact rfl; exact rfl) | ((with_reducible apply does_len_map); exact tyOk rfl; exact rfl; exact rfl)) | ((first | (with_reducible apply rp1) | (with_reducible apply dr1)); first | (exact does_add_to (z := ((2 * k + 1 : Nat) : Int)) rfl rfl (by omega) (by omega) (by omega))) | ((first | (with_reducible apply rp2) | (with_reducible apply dr2)); first | (exact does_add_to (z := ((2 * k + 1 : Nat) : Int)) rfl rfl (by omega) (by omega) (by omega))) | ((first | (with_reducible apply rpN) | (with_reducible apply drN)); first | (exact does_add_to (z := ((2 * k + 1 : Nat) : Int)) rfl rfl (by omega) (by omega) (by omega))))
    refine aw_cond rfl (fun hd => ?_) (fun hd => ?_)
    · have hlt : k < h := by simp at hd; omega
      obtain ⟨a, ha⟩ : ∃ a, row[2 * k]? = some a := ⟨_, List.getElem?_eq_getElem (by omega)⟩
      obtain ⟨b, hb⟩ : ∃ b, row[2 * k + 1]? = some b := ⟨_, List.getElem?_eq_getElem (by omega)⟩
      have h1 := hst a b ha hb
      have hwa : 42 + a.length + (42 + b.length) ≤ wt row := by
        have e := wt_split row (2 * k)
        have e2 : row.drop (2 * k) = a :: b :: row.drop (2 * k + 2) := by
          obtain ⟨q1, r1⟩ := List.getElem?_eq_some_iff.1 ha
          obtain ⟨q2, r2⟩ := List.getElem?_eq_some_iff.1 hb
          rw [List.drop_eq_getElem_cons q1, r1, List.drop_eq_getElem_cons q2, r2]
        rw [e2] at e
        simp only [wt, List.map_cons, List.sum_cons] at e ⊢
        omega
      have p1 := node_pc m hm a b (by omega)
      clear hd hst
      generalize dig m 2 [a, b] = x at *
      repeat (first | (with_reducible apply aw_seq) | (with_reducible apply aw_reg) | (with_reducible apply rp_nil) | (with_reducible apply ae_norm) | (with_reducible apply aw_regD) | (with_reducible apply aw_block) | (with_reducible apply aw_skip) | ((with_reducible apply be_other); exact rfl) | ((with_reducible apply dr_nil); first | kernel_rfl | exact rfl) | ((first | (with_reducible apply rp) | (with_reducible apply dr)); first | (exact does_add_to (z := ((2 * k + 1 : Nat) : Int)) rfl rfl (by omega) (by omega) (by omega)) | ((with_reducible apply does_call_flat); exact rfl; exact rfl; exact (p1); exact rfl) | ((with_reducible apply does_call'); exact rfl; exact rfl; exact rfl; exact (p1)) | ((with_reducible apply does_move); (conv => lhs; whnf)) | ((with_reducible apply does_assign); (conv => lhs; whnf)) | ((with_reducible apply does_load_var); exact tyOk rfl; exact rfl; exact rfl; exact rfl; exact rfl) | ((with_reducible apply does_load_elem); exact tyOk rfl; exact rfl; exact rfl; (first | assumption | exact map_get (by assumption) | exact rfl); exact rfl) | ((with_reducible apply does_index_sl); exact tyOk rfl; exact rfl; exact tyOk rfl; exact rfl; exact rfl; exact rfl; exact rfl; (first | omega | (dsimp only; omega) | (dsimp only; simp only [List.length_map, List.length_append, List.length_cons, List.length_nil] at *; omega) | (simp only [List.length_map, List.length_append, List.length_cons, List.length_nil] at *; omega) | (simp; omega))) | ((with_reducible apply does_ne); exact rfl; exact rfl) | ((with_reducible apply does_extract); exact rfl; exact rfl)) | ((first | (with_reducible apply rp1) | (with_reducible apply dr1)); first | (exact does_add_to (z := ((2 * k + 1 : Nat) : Int)) rfl rfl (by omega) (by omega) (by omega)) | ((with_reducible apply does_call1); exact rfl; exact rfl; exact rfl; exact (p1))) | ((first | (with_reducible apply rp2) | (with_reducible apply dr2)); first | (exact does_add_to (z := ((2 * k + 1 : Nat) : Int)) rfl rfl (by omega) (by omega) (by omega))) | ((first | (with_reducible apply rpN) | (with_reducible apply drN)); first | (exact does_add_to (z := ((2 * k + 1 : Nat) : Int)) rfl rfl (by omega) (by omega) (by omega))))
      refine aw_cond rfl (fun he => absurd he (by decide)) (fun he => ?_)
      clear he
      repeat (first | (with_reducible apply aw_reg) | (with_reducible apply rp_nil) | (with_reducible apply ae_norm) | (with_reducible apply be_norm) | (with_reducible apply aw_skip) | ((with_reducible apply be_other); exact rfl) | ((with_reducible apply dr_nil); first | kernel_rfl | exact rfl) | ((first | (with_reducible apply rp) | (with_reducible apply dr)); first | (exact does_add_to (z := ((2 * (k + 1) : Nat) : Int)) rfl rfl (by omega) (by omega) (by omega)) | ((with_reducible apply does_move); (conv => lhs; whnf)) | ((with_reducible apply does_assign); (conv => lhs; whnf))) | ((first | (with_reducible apply rp1) | (with_reducible apply dr1)); first | (exact does_add_to (z := ((2 * (k + 1) : Nat) : Int)) rfl rfl (by omega) (by omega) (by omega)) | ((with_reducible apply does_buildSlice); exact tyOk rfl; exact rfl; exact tyOk rfl; exact rfl; exact rfl; (focus repeat' (first | exact trivial | refine And.intro rfl (And.intro rfl ?_))); decide; decide; exact rfl) | ((with_reducible apply does_append_nil); exact tyOk rfl; exact rfl; exact tyOk rfl; exact rfl; exact rfl; decide; (first | omega | (dsimp only; omega) | (dsimp only; simp only [List.length_map, List.length_append, List.length_cons, List.length_nil] at *; omega) | (simp only [List.length_map, List.length_append, List.length_cons, List.length_nil] at *; omega) | (simp; omega)); (first | omega | (dsimp only; omega) | (dsimp only; simp only [List.length_map, List.length_append, List.length_cons, List.length_nil] at *; omega) | (simp only [List.length_map, List.length_append, List.length_cons, List.length_nil] at *; omega) | (simp; omega)); exact rfl)) | ((first | (with_reducible apply rp2) | (with_reducible apply dr2)); first | (exact does_add_to (z := ((2 * (k + 1) : Nat) : Int)) rfl rfl (by omega) (by omega) (by omega)) | ((with_reducible apply does_append_own); exact tyOk rfl; exact rfl; exact tyOk rfl; exact rfl; exact rfl; exact rfl; decide; (first | omega | (dsimp only; omega) | (dsimp only; simp only [List.length_map, List.length_append, List.length_cons, List.length_nil] at *; omega) | (simp only [List.length_map, List.length_append, List.length_cons, List.length_nil] at *; omega) | (simp; omega)); (first | omega | (dsimp only; omega) | (dsimp only; simp only [List.length_map, List.length_append, List.length_cons, List.length_nil] at *; omega) | (simp only [List.length_map, List.length_append, List.length_cons, List.length_nil] at *; omega) | (simp; omega)); exact rfl)) | ((first | (with_reducible apply rpN) | (with_reducible apply drN)); first | (exact does_add_to (z := ((2 * (k + 1) : Nat) : Int)) rfl rfl (by omega) (by omega) (by omega))))
      refine ⟨_, _, ?_, ?_, k + 1, by omega, rfl, rfl⟩
      · omega
      · rw [h1]
        refine forget_of [(1000, 37)] (by repeat' (first | exact ks_nil | (refine ks_cons rfl (by first | exact SubA.refl _ | exact SubA.d (SubD.nil _) | exact subA_ow (by first | rfl | (simp; done) | (simp; omega)) | exact subA_i (by first | rfl | (simp; done) | (simp; omega) | omega) | (refine SubA.of_eq ?_; first | rfl | (simp; done) | (simp; omega))) ?_))) ?_ rfl (by repeat' (first | exact trivial | exact insB_map _ | exact inB_ow rfl | exact inB_px rfl | exact inB_pr rfl | refine And.intro ?_ ?_)) (by repeat' (first | exact trivial | exact insB_map _ | exact inB_ow rfl | exact inB_px rfl | exact inB_pr rfl | refine And.intro ?_ ?_))
        exact kb_cons rfl (row_eq rfl) kb_nil
    · have hke : k = h := by simp at hd; omega
      clear hd hst
      subst hke
      repeat (first | (with_reducible apply aw_seq) | (with_reducible apply aw_reg) | (with_reducible apply rp_nil) | (with_reducible apply ae_norm) | (with_reducible apply aw_exit) | (with_reducible apply ae_exit) | (with_reducible apply be_exit) | (with_reducible apply aw_ret) | (with_reducible apply re_ret) | ((with_reducible apply be_other); exact rfl) | ((with_reducible apply dr_nil); first | kernel_rfl | exact rfl) | ((first | (with_reducible apply rp) | (with_reducible apply dr)); first | ((with_reducible apply does_move); (conv => lhs; whnf)) | ((with_reducible apply does_assign); (conv => lhs; whnf))))
      (with_reducible apply ret_ok); (focus (repeat' (first | (with_reducible apply rv_nil) | (with_reducible apply rv_cons) | ((with_reducible apply rv_tmp); exact rfl) | ((with_reducible apply rv_cell); exact rfl; exact rfl; exact tyOk rfl; exact rfl; exact rfl) | ((with_reducible apply rv_rowd); exact rfl; exact rfl; exact tyOk rfl; exact rfl; (first | (with_reducible assumption) | exact rfl | ((try simp only [List.length_map]); first | assumption | omega) | (simp; omega))) | ((with_reducible apply rv_row); exact rfl; exact rfl; exact tyOk rfl; exact rfl; (first | exact Nat.le_of_ble_eq_true rfl | omega | (simp; omega)))))); (first | exact rfl | (focus repeat' (first | exact frzVs_one (frzV_map _ _) | exact rfl | (apply frzVs_cons; (first | exact frzV_map _ _ | exact rfl))))); refine SubD.of_eq ?_
      rw [← ho, List.take_of_length_le (by omega)]; rfl
def rootR (m : Int) : Nat → List (List UInt8) → List UInt8
  | 0, r => r.getD 0 []
  | j + 1, r => rootR m j (upF m r)
def logS (n : Nat) : Nat := if n = 16 then 4 else if n = 8 then 3 else if n = 4 then 2 else if n = 2 then 1 else 0
def rootSF (m : Int) (l : List Sl3) : List UInt8 := rootR m (logS l.length) (leavesF m l)
theorem leaves_wt (m : Int) : ∀ {l : List Sl3}, (∀ s ∈ l, s.ok) → wt (leavesF m l) ≤ l.length * 533
  | [], _ => Nat.zero_le _
  | s :: l, h => by
    have h1 := leaves_wt m (l := l) fun t ht => h t (by simp [ht])
    have h2 := leafS_len m (h s (by simp))
    simp only [leavesF, wt, List.map_cons, List.sum_cons, List.length_cons] at *
    rw [Nat.add_mul]
    omega
theorem logS_pow {n : Nat} (h : n = 1 ∨ n = 2 ∨ n = 4 ∨ n = 8 ∨ n = 16) : n = 2 ^ logS n := by
  rcases h with rfl | rfl | rfl | rfl | rfl <;> rfl
set_option maxHeartbeats 1000000 in
theorem sroot_pc (m : Int) (hm : m = 1 ∨ m = 2) (l : List Sl3) (hl : l.length = 1 ∨ l.length = 2 ∨ l.length = 4 ∨ l.length = 8 ∨ l.length = 16) (hok : ∀ s ∈ l, s.ok) : PC Tryd.prog 24 [iD m, slotsD l] (.tu [byD (rootSF m l), iD 0]) := by
  have p1 := leaves_pc m hm l hl hok
  have hll : (leavesF m l).length = 2 ^ logS l.length := by unfold leavesF; rw [List.length_map]; exact logS_pow hl
  have hw : wt (leavesF m l) ≤ 8528 := Nat.le_trans (leaves_wt m hok) (by rcases hl with h | h | h | h | h <;> rw [h] <;> omega)
  have hj : logS l.length ≤ 4 := by unfold logS; repeat' split
                                    all_goals omega
  unfold rootSF
  generalize leavesF m l = row at *
  generalize logS l.length = j at *
  refine pc_of_aw Tryd.func24 rfl (by kernel_rfl) mixed (by kernel_rfl) (by rw [Tryd.ntmps24]; exact Nat.le_of_ble_eq_true rfl) Tryd.results24 ?_
  repeat (first | (with_reducible apply aw_seq) | (with_reducible apply aw_reg) | (with_reducible apply rp_nil) | (with_reducible apply ae_norm) | (with_reducible apply aw_block) | ((with_reducible apply be_other); exact rfl) | ((with_reducible apply dr_nil); first | kernel_rfl | exact rfl) | ((first | (with_reducible apply rp) | (with_reducible apply dr)); first | ((with_reducible apply does_call_flat); exact rfl; exact rfl; exact (p1); exact rfl) | ((with_reducible apply does_call'); exact rfl; exact rfl; exact rfl; exact (p1)) | ((with_reducible apply does_move); (conv => lhs; whnf)) | ((with_reducible apply does_assign); (conv => lhs; whnf)) | ((with_reducible apply does_extract); exact rfl; exact rfl)) | ((first | (with_reducible apply rp1) | (with_reducible apply dr1)); first | ((with_reducible apply does_call1); exact rfl; exact rfl; exact rfl; exact (p1))))
  refine aw_loop (fun n s => ∃ i r, i ≤ 4 ∧ r.length = 2 ^ i ∧ wt r ≤ 8528 ∧ rootR m i r = rootR m j row ∧ n = i ∧ s = ⟨[(0, .d (iD m)), (6, .d (byL r)), (7, .d (iD 0))], []⟩) _ _ ?_ ⟨j, row, hj, hll, hw, rfl, rfl, rfl⟩ ?_
  · refine forget_of [] (by repeat' (first | exact ks_nil | (refine ks_cons rfl (by first | exact SubA.refl _ | exact SubA.d (SubD.nil _) | exact subA_ow (by first | rfl | (simp; done) | (simp; omega)) | exact subA_i (by first | rfl | (simp; done) | (simp; omega) | omega) | (refine SubA.of_eq ?_; first | rfl | (simp; done) | (simp; omega))) ?_))) (by repeat' (first | exact trivial | exact rfl | exact kb_d rfl | refine And.intro ?_ ?_)) rfl (by repeat' (first | exact trivial | exact insB_map _ | exact inB_ow rfl | exact inB_px rfl | exact inB_pr rfl | refine And.intro ?_ ?_)) (by repeat' (first | exact trivial | exact insB_map _ | exact inB_ow rfl | exact inB_px rfl | exact inB_pr rfl | refine And.intro ?_ ?_))
  · rintro n s ⟨i, r, hi, hr, hrw, hrr, rfl, rfl⟩
    repeat (first | (with_reducible apply aw_seq) | (with_reducible apply aw_reg) | (with_reducible apply rp_nil) | (with_reducible apply ae_norm) | ((with_reducible apply be_other); exact rfl) | ((with_reducible apply dr_nil); first | kernel_rfl | exact rfl) | ((first | (with_reducible apply rp) | (with_reducible apply dr) | ((first | (with_reducible apply rpG) | (with_reducible apply drG)); exact rfl; (first | exact gval_t rfl | exact gval_f rfl | exact gval_gt rfl | exact gval_gf rfl); (focus repeat' (first | exact trivial | exact fun h => h | refine And.intro ?_ ?_ | (intro h; first | exact h | (simp only [Bool.and_eq_true] at h; first | exact h.1 | exact h.1.1 | exact h.1.1.1 | exact h.2) | simp_all))); intro hgd; (try simp only [decide_eq_true_eq, Bool.and_eq_true, Bool.not_eq_true', beq_iff_eq] at hgd))); first | ((with_reducible apply does_move); (conv => lhs; whnf)) | ((with_reducible apply does_and); exact rfl; exact rfl; exact rfl; (first | exact trivial | exact fun h => h | (intro h; first | exact h | (simp only [Bool.and_eq_true] at h; first | exact h.1 | exact h.1.1 | exact h.1.1.1 | exact h.2) | simp_all))) | ((with_reducible apply does_eq); exact rfl; exact rfl) | ((with_reducible apply does_gt); exact rfl; exact rfl) | ((with_reducible apply does_len_map); exact tyOk rfl; exact rfl; exact rfl)))
    cases n with
    | zero =>
      have hr1 : r.length = 1 := hr
      have hz : ((0 : Int) == 0 && decide ((r.length : Int) > 1)) = false := by rw [hr1]; rfl
      refine aw_cond rfl (fun he => absurd (hz.symm.trans he) (by decide)) (fun he => ?_)
      clear he
      repeat (first | (with_reducible apply aw_seq) | (with_reducible apply aw_reg) | (with_reducible apply rp_nil) | (with_reducible apply ae_norm) | (with_reducible apply aw_exit) | (with_reducible apply ae_exit) | (with_reducible apply be_exit) | ((with_reducible apply be_other); exact rfl) | ((with_reducible apply dr_nil); first | kernel_rfl | exact rfl) | ((first | (with_reducible apply rp) | (with_reducible apply dr)); first | ((with_reducible apply does_move); (conv => lhs; whnf)) | ((with_reducible apply does_ne); exact rfl; exact rfl)))
      refine aw_cond rfl (fun he => absurd he (by decide)) (fun he => ?_)
      clear he
      obtain ⟨x, rfl⟩ : ∃ x, r = [x] := by
        match r, hr1 with
        | [x], _ => exact ⟨x, rfl⟩
      repeat (first | (with_reducible apply aw_seq) | (with_reducible apply aw_reg) | (with_reducible apply rp_nil) | (with_reducible apply ae_norm) | (with_reducible apply aw_ret) | (with_reducible apply re_ret) | (with_reducible apply aw_skip) | ((with_reducible apply be_other); exact rfl) | ((with_reducible apply dr_nil); first | kernel_rfl | exact rfl) | ((first | (with_reducible apply rp) | (with_reducible apply dr)); first | ((with_reducible apply does_move); (conv => lhs; whnf)) | ((with_reducible apply does_assign); (conv => lhs; whnf)) | ((with_reducible apply does_load_var); exact tyOk rfl; exact rfl; exact rfl; exact rfl; exact rfl) | ((with_reducible apply does_load_elem); exact tyOk rfl; exact rfl; exact rfl; (first | assumption | exact map_get (by assumption) | exact rfl); exact rfl) | ((with_reducible apply does_index_sl); exact tyOk rfl; exact rfl; exact tyOk rfl; exact rfl; exact rfl; exact rfl; exact rfl; (first | omega | (dsimp only; omega) | (dsimp only; simp only [List.length_map, List.length_append, List.length_cons, List.length_nil] at *; omega) | (simp only [List.length_map, List.length_append, List.length_cons, List.length_nil] at *; omega) | (simp; omega)))))
      (with_reducible apply ret_ok); (focus (repeat' (first | (with_reducible apply rv_nil) | (with_reducible apply rv_cons) | ((with_reducible apply rv_tmp); exact rfl) | ((with_reducible apply rv_cell); exact rfl; exact rfl; exact tyOk rfl; exact rfl; exact rfl) | ((with_reducible apply rv_rowd); exact rfl; exact rfl; exact tyOk rfl; exact rfl; (first | (with_reducible assumption) | exact rfl | ((try simp only [List.length_map]); first | assumption | omega) | (simp; omega))) | ((with_reducible apply rv_row); exact rfl; exact rfl; exact tyOk rfl; exact rfl; (first | exact Nat.le_of_ble_eq_true rfl | omega | (simp; omega)))))); (first | exact rfl | (focus repeat' (first | exact frzVs_one (frzV_map _ _) | exact rfl | (apply frzVs_cons; (first | exact frzV_map _ _ | exact rfl))))); refine SubD.of_eq ?_
      rw [← hrr]; rfl
    | succ i =>
      have hp : 0 < 2 ^ i := Nat.two_pow_pos i
      have hr2 : r.length = 2 * 2 ^ i := by rw [hr, Nat.pow_succ]; omega
      have hp8 : 2 ^ i ≤ 8 := by
        rcases (by omega : i = 0 ∨ i = 1 ∨ i = 2 ∨ i = 3) with rfl | rfl | rfl | rfl <;> decide
      have hz : ((0 : Int) == 0 && decide ((r.length : Int) > 1)) = true := by
        rw [decide_eq_true (by omega)]; rfl
      have u1 := up_pc m hm r (2 ^ i) hr2 (by omega) (by omega)
      have hul := upF_len m (2 ^ i) r hr2
      have huw := upF_wt m r
      have hru : rootR m i (upF m r) = rootR m j row := hrr
      generalize upF m r = v at *
      refine aw_cond rfl (fun he => ?_) (fun he => absurd (hz.symm.trans he) (by decide))
      clear he
      repeat (first | (with_reducible apply aw_reg) | (with_reducible apply rp_nil) | (with_reducible apply ae_norm) | (with_reducible apply aw_block) | (with_reducible apply be_norm) | (with_reducible apply aw_skip) | ((with_reducible apply be_other); exact rfl) | ((with_reducible apply dr_nil); first | kernel_rfl | exact rfl) | ((first | (with_reducible apply rp) | (with_reducible apply dr)); first | ((with_reducible apply does_call_flat); exact rfl; exact rfl; exact (u1); exact rfl) | ((with_reducible apply does_call'); exact rfl; exact rfl; exact rfl; exact (u1)) | ((with_reducible apply does_move); (conv => lhs; whnf)) | ((with_reducible apply does_assign); (conv => lhs; whnf)) | ((with_reducible apply does_extract); exact rfl; exact rfl)) | ((first | (with_reducible apply rp1) | (with_reducible apply dr1)); first | ((with_reducible apply does_call1); exact rfl; exact rfl; exact rfl; exact (u1))))
      refine ⟨_, _, ?_, ?_, i, v, by omega, hul, by omega, hru, rfl, rfl⟩
      · omega
      · refine forget_of [] (by repeat' (first | exact ks_nil | (refine ks_cons rfl (by first | exact SubA.refl _ | exact SubA.d (SubD.nil _) | exact subA_ow (by first | rfl | (simp; done) | (simp; omega)) | exact subA_i (by first | rfl | (simp; done) | (simp; omega) | omega) | (refine SubA.of_eq ?_; first | rfl | (simp; done) | (simp; omega))) ?_))) (by repeat' (first | exact trivial | exact rfl | exact kb_d rfl | refine And.intro ?_ ?_)) rfl (by repeat' (first | exact trivial | exact insB_map _ | exact inB_ow rfl | exact inB_px rfl | exact inB_pr rfl | refine And.intro ?_ ?_)) (by repeat' (first | exact trivial | exact insB_map _ | exact inB_ow rfl | exact inB_px rfl | exact inB_pr rfl | refine And.intro ?_ ?_))
end Go.Proofs.YtagbajdjpfafoaaDoor
