/-
  slots.Path, CheckPath. No condition but the sizes.
-/
import Derived.Test.YtagbajdjpfafoaaDoorZSlotR
import Derived.Test.YtagbajdjpfafoaaDoorZIncd
namespace Go.Proofs.YtagbajdjpfafoaaDoor
set_option linter.unusedSimpArgs false
set_option linter.unusedVariables false
open Go.RowKit

theorem wt_mem' : ∀ {l : List (List UInt8)} {p : List UInt8}, p ∈ l → p.length ≤ wt l
  | q :: l, p, h => by
    simp only [wt, List.map_cons, List.sum_cons]
    rcases List.mem_cons.1 h with rfl | h
    · omega
    · have := wt_mem' h
      simp only [wt] at this
      omega
/-- The one beside the i-th. -/
def sib (i : Nat) : Nat := if i % 2 = 1 then i - 1 else i + 1
theorem sib_xor : ∀ i : Nat, i < 16 → bitV .xor .i64 (i : Int) 1 = ((sib i : Nat) : Int) := by
  have h : ((List.range 16).all fun i : Nat => bitV .xor .i64 (i : Int) 1 == ((sib i : Nat) : Int)) = true := by kernel_rfl
  intro i hi
  have := List.all_eq_true.1 h i (List.mem_range.2 hi)
  simpa using this
def pathG (m : Int) : Nat → List (List UInt8) → Nat → List (List UInt8)
  | 0, _, _ => []
  | j + 1, r, i => r.getD (sib i) [] :: pathG m j (upF m r) (i / 2)
theorem pathG_len (m : Int) : ∀ (j : Nat) (r : List (List UInt8)) (i : Nat), (pathG m j r i).length = j
  | 0, _, _ => rfl
  | j + 1, r, i => by simp [pathG, pathG_len m j]
set_option maxHeartbeats 1000000 in
theorem path_pc (m : Int) (hm : m = 1 ∨ m = 2) (l : List Sl3) (i : Nat) (hl : l.length = 1 ∨ l.length = 2 ∨ l.length = 4 ∨ l.length = 8 ∨ l.length = 16) (hok : ∀ s ∈ l, s.ok) (hi : i < l.length) : PC Tryd.prog 22 [iD m, slotsD l, iD i] (.tu [byL (pathG m (logS l.length) (leavesF m l) i), iD 0]) := by
  have p1 := leaves_pc m hm l hl hok
  have hll : (leavesF m l).length = 2 ^ logS l.length := by unfold leavesF; rw [List.length_map]; exact logS_pow hl
  have hw : wt (leavesF m l) ≤ 8528 := Nat.le_trans (leaves_wt m hok) (by rcases hl with h | h | h | h | h <;> rw [h] <;> omega)
  have hj : logS l.length ≤ 4 := by unfold logS; repeat' split
                                    all_goals omega
  have hg : (decide ((i : Int) < 0) || decide ((i : Int) ≥ (l.length : Int))) = false := by simp; omega
  have hi2 : i < 2 ^ logS l.length := by rw [← logS_pow hl]; exact hi
  generalize leavesF m l = row at *
  generalize logS l.length = j at *
  refine pc_of_aw Tryd.func22 rfl (by kernel_rfl) mixed (by kernel_rfl) (by rw [Tryd.ntmps22]; exact Nat.le_of_ble_eq_true rfl) Tryd.results22 ?_
  repeat (first | (with_reducible apply aw_seq) | (with_reducible apply aw_reg) | (with_reducible apply rp_nil) | (with_reducible apply ae_norm) | ((with_reducible apply be_other); exact rfl) | ((with_reducible apply dr_nil); first | kernel_rfl | exact rfl) | ((first | (with_reducible apply rp) | (with_reducible apply dr)); first | ((with_reducible apply does_call_flat); exact rfl; exact rfl; exact (p1); exact rfl) | ((with_reducible apply does_call'); exact rfl; exact rfl; exact rfl; exact (p1)) | ((with_reducible apply does_move); (conv => lhs; whnf)) | ((with_reducible apply does_assign); (conv => lhs; whnf)) | ((with_reducible apply does_ne); exact rfl; exact rfl) | ((with_reducible apply does_extract); exact rfl; exact rfl)) | ((first | (with_reducible apply rp1) | (with_reducible apply dr1)); first | ((with_reducible apply does_call1); exact rfl; exact rfl; exact rfl; exact (p1))))
  refine aw_cond rfl (fun he => absurd he (by decide)) (fun he => ?_)
  clear he
  repeat (first | (with_reducible apply aw_seq) | (with_reducible apply aw_reg) | (with_reducible apply rp_nil) | (with_reducible apply ae_norm) | (with_reducible apply aw_skip) | ((with_reducible apply be_other); exact rfl) | ((with_reducible apply dr_nil); first | kernel_rfl | exact rfl) | ((first | (with_reducible apply rp) | (with_reducible apply dr) | ((first | (with_reducible apply rpG) | (with_reducible apply drG)); exact rfl; (first | exact gval_t rfl | exact gval_f rfl | exact gval_gt rfl | exact gval_gf rfl); (focus repeat' (first | exact trivial | exact fun h => h | refine And.intro ?_ ?_ | (intro h; first | exact h | (simp only [Bool.and_eq_true] at h; first | exact h.1 | exact h.1.1 | exact h.1.1.1 | exact h.2) | simp_all))); intro hgd; (try simp only [decide_eq_true_eq, Bool.and_eq_true, Bool.not_eq_true', beq_iff_eq] at hgd))); first | ((with_reducible apply does_move); (conv => lhs; whnf)) | ((with_reducible apply does_and); exact rfl; exact rfl; exact rfl; (first | exact trivial | exact fun h => h | (intro h; first | exact h | (simp only [Bool.and_eq_true] at h; first | exact h.1 | exact h.1.1 | exact h.1.1.1 | exact h.2) | simp_all))) | ((with_reducible apply does_or); exact rfl; exact rfl; exact rfl; (first | exact trivial | exact fun h => h | (intro h; first | exact h | (simp only [Bool.and_eq_true] at h; first | exact h.1 | exact h.1.1 | exact h.1.1.1 | exact h.2) | simp_all))) | ((with_reducible apply does_lt); exact rfl; exact rfl) | ((with_reducible apply does_ge); exact rfl; exact rfl) | ((with_reducible apply does_len_map); exact tyOk rfl; exact rfl; exact rfl)))
  refine aw_cond rfl (fun he => absurd (hg.symm.trans he) (by decide)) (fun he => ?_)
  clear he
  repeat (first | (with_reducible apply aw_seq) | (with_reducible apply aw_reg) | (with_reducible apply rp_nil) | (with_reducible apply ae_norm) | (with_reducible apply aw_block) | (with_reducible apply aw_skip) | ((with_reducible apply be_other); exact rfl) | ((with_reducible apply dr_nil); first | kernel_rfl | exact rfl) | ((first | (with_reducible apply rp) | (with_reducible apply dr)); first | ((with_reducible apply does_assign); (conv => lhs; whnf))))
  refine aw_loop (fun n s => ∃ k r q out, k ≤ 4 ∧ r.length = 2 ^ k ∧ wt r ≤ 8528 ∧ q < 2 ^ k ∧ out ++ pathG m k r q = pathG m j row i ∧ out.length ≤ 4 ∧ out.length + k = j ∧ n = k ∧ s = ⟨[(0, .d (iD m)), (2, .d (iD q)), (8, .d (byL r)), (10, .ow 1000 out.length)], [(1000, .row 31 1 (out.map fun p => [byD p]))]⟩) _ _ ?_ ⟨j, row, i, [], hj, hll, hw, hi2, rfl, by simp, by simp, rfl, rfl⟩ ?_
  · refine Ent.trans (ent_nil 10 1000 31 1 rfl rfl) ?_
    refine forget_of [] (by repeat' (first | exact ks_nil | (refine ks_cons rfl (by first | exact SubA.refl _ | exact SubA.d (SubD.nil _) | exact subA_ow (by first | rfl | (simp; done) | (simp; omega)) | exact subA_i (by first | rfl | (simp; done) | (simp; omega) | omega) | (refine SubA.of_eq ?_; first | rfl | (simp; done) | (simp; omega))) ?_))) (by repeat' (first | exact trivial | exact rfl | exact kb_d rfl | refine And.intro ?_ ?_)) rfl (by repeat' (first | exact trivial | exact insB_map _ | exact inB_ow rfl | exact inB_px rfl | exact inB_pr rfl | refine And.intro ?_ ?_)) (by repeat' (first | exact trivial | exact insB_map _ | exact inB_ow rfl | exact inB_px rfl | exact inB_pr rfl | refine And.intro ?_ ?_))
  · rintro n s ⟨k, r, q, out, hk, hr, hrw, hq, hpo, hol, hoj, hnk, rfl⟩
    subst hnk
    repeat (first | (with_reducible apply aw_seq) | (with_reducible apply aw_reg) | (with_reducible apply rp_nil) | (with_reducible apply ae_norm) | ((with_reducible apply be_other); exact rfl) | ((with_reducible apply dr_nil); first | kernel_rfl | exact rfl) | ((first | (with_reducible apply rp) | (with_reducible apply dr)); first | ((with_reducible apply does_move); (conv => lhs; whnf)) | ((with_reducible apply does_gt); exact rfl; exact rfl) | ((with_reducible apply does_len_map); exact tyOk rfl; exact rfl; exact rfl)))
    cases n with
    | zero =>
      have hz : decide ((r.length : Int) > 1) = false := by rw [hr]; rfl
      refine aw_cond rfl (fun he => absurd (hz.symm.trans he) (by decide)) (fun he => ?_)
      clear he
      have ho : out = pathG m j row i := by rw [← hpo]; exact (List.append_nil out).symm
      repeat (first | (with_reducible apply aw_seq) | (with_reducible apply aw_reg) | (with_reducible apply rp_nil) | (with_reducible apply ae_norm) | (with_reducible apply aw_exit) | (with_reducible apply ae_exit) | (with_reducible apply be_exit) | (with_reducible apply aw_ret) | (with_reducible apply re_ret) | ((with_reducible apply be_other); exact rfl) | ((with_reducible apply dr_nil); first | kernel_rfl | exact rfl) | ((first | (with_reducible apply rp) | (with_reducible apply dr)); first | ((with_reducible apply does_move); (conv => lhs; whnf)) | ((with_reducible apply does_assign); (conv => lhs; whnf))))
      (with_reducible apply ret_ok); (focus (repeat' (first | (with_reducible apply rv_nil) | (with_reducible apply rv_cons) | ((with_reducible apply rv_tmp); exact rfl) | ((with_reducible apply rv_cell); exact rfl; exact rfl; exact tyOk rfl; exact rfl; exact rfl) | ((with_reducible apply rv_rowd); exact rfl; exact rfl; exact tyOk rfl; exact rfl; (first | (with_reducible assumption) | exact rfl | ((try simp only [List.length_map]); first | assumption | omega) | (simp; omega))) | ((with_reducible apply rv_row); exact rfl; exact rfl; exact tyOk rfl; exact rfl; (first | exact Nat.le_of_ble_eq_true rfl | omega | (simp; omega)))))); (first | exact rfl | (focus repeat' (first | exact frzVs_one (frzV_map _ _) | exact rfl | (apply frzVs_cons; (first | exact frzV_map _ _ | exact rfl))))); refine SubD.of_eq ?_
      rw [← ho]; rfl
    | succ k =>
      have hp8 : 2 ^ k ≤ 8 := by
        rcases (by omega : k = 0 ∨ k = 1 ∨ k = 2 ∨ k = 3) with rfl | rfl | rfl | rfl <;> decide
      have hpp : 0 < 2 ^ k := Nat.two_pow_pos k
      have hr2 : r.length = 2 * 2 ^ k := by rw [hr, Nat.pow_succ]; omega
      have hq2 : q < 2 * 2 ^ k := by rw [Nat.pow_succ] at hq; omega
      have hz : decide ((r.length : Int) > 1) = true := decide_eq_true (by omega)
      have hx := sib_xor q (by omega)
      have hsb : sib q < r.length := by unfold sib; split <;> omega
      obtain ⟨p, hp⟩ : ∃ p, r[sib q]? = some p := ⟨_, List.getElem?_eq_getElem hsb⟩
      have hpg : pathG m (k + 1) r q = p :: pathG m k (upF m r) (q / 2) := by
        show r.getD (sib q) [] :: _ = _
        rw [List.getD_eq_getElem?_getD, hp]; rfl
      have hwp := wt_mem' (List.mem_of_getElem? hp)
      have u1 := up_pc m hm r (2 ^ k) hr2 (by omega) (by omega)
      have hul := upF_len m (2 ^ k) r hr2
      have huw := upF_wt m r
      rw [hpg] at hpo
      have hpo2 : (out ++ [p]) ++ pathG m k (upF m r) (q / 2) = pathG m j row i := by rw [← hpo]; simp
      have hom : (out.map fun p => [byD p]).length = out.length := by simp
      generalize upF m r = v at *
      refine aw_cond rfl (fun he => ?_) (fun he => absurd (hz.symm.trans he) (by decide))
      clear he
      repeat (first | (with_reducible apply aw_seq) | (with_reducible apply aw_reg) | (with_reducible apply rp_nil) | (with_reducible apply ae_norm) | (with_reducible apply aw_block) | (with_reducible apply aw_skip) | ((with_reducible apply be_other); exact rfl) | ((with_reducible apply dr_nil); first | kernel_rfl | exact rfl) | ((first | (with_reducible apply rp) | (with_reducible apply dr)); first | (exact does_int_to (z := iD (sib q : Nat)) rfl rfl trivial (congrArg (fun z => D.sc (.int .i64 z)) hx)) | (exact does_build_f (tyOk rfl) rfl (tyOk rfl) rfl rfl rfl rfl (by decide)) | ((with_reducible apply does_call_flat); exact rfl; exact rfl; exact (u1); exact rfl) | ((with_reducible apply does_call'); exact rfl; exact rfl; exact rfl; exact (u1)) | ((with_reducible apply does_move); (conv => lhs; whnf)) | ((with_reducible apply does_assign); (conv => lhs; whnf)) | ((with_reducible apply does_load_var); exact tyOk rfl; exact rfl; exact rfl; exact rfl; exact rfl) | ((with_reducible apply does_load_elem); exact tyOk rfl; exact rfl; exact rfl; (first | assumption | exact map_get (by assumption) | exact rfl); exact rfl) | ((with_reducible apply does_index_sl); exact tyOk rfl; exact rfl; exact tyOk rfl; exact rfl; exact rfl; exact rfl; exact rfl; (first | omega | (dsimp only; omega) | (dsimp only; simp only [List.length_map, List.length_append, List.length_cons, List.length_nil] at *; omega) | (simp only [List.length_map, List.length_append, List.length_cons, List.length_nil] at *; omega) | (simp; omega))) | ((with_reducible apply does_ne); exact rfl; exact rfl) | ((with_reducible apply does_extract); exact rfl; exact rfl)) | ((first | (with_reducible apply rp1) | (with_reducible apply dr1)); first | (exact does_int_to (z := iD (sib q : Nat)) rfl rfl trivial (congrArg (fun z => D.sc (.int .i64 z)) hx)) | (exact does_build_f (tyOk rfl) rfl (tyOk rfl) rfl rfl rfl rfl (by decide)) | ((with_reducible apply does_call1); exact rfl; exact rfl; exact rfl; exact (u1)) | ((with_reducible apply does_buildSlice); exact tyOk rfl; exact rfl; exact tyOk rfl; exact rfl; exact rfl; (focus repeat' (first | exact trivial | refine And.intro rfl (And.intro rfl ?_))); decide; decide; exact rfl) | ((with_reducible apply does_append_nil); exact tyOk rfl; exact rfl; exact tyOk rfl; exact rfl; exact rfl; decide; (first | omega | (dsimp only; omega) | (dsimp only; simp only [List.length_map, List.length_append, List.length_cons, List.length_nil] at *; omega) | (simp only [List.length_map, List.length_append, List.length_cons, List.length_nil] at *; omega) | (simp; omega)); (first | omega | (dsimp only; omega) | (dsimp only; simp only [List.length_map, List.length_append, List.length_cons, List.length_nil] at *; omega) | (simp only [List.length_map, List.length_append, List.length_cons, List.length_nil] at *; omega) | (simp; omega)); exact rfl)) | ((first | (with_reducible apply rp2) | (with_reducible apply dr2)); first | (exact does_int_to (z := iD (sib q : Nat)) rfl rfl trivial (congrArg (fun z => D.sc (.int .i64 z)) hx)) | (exact does_build_f (tyOk rfl) rfl (tyOk rfl) rfl rfl rfl rfl (by decide)) | ((with_reducible apply does_append_own); exact tyOk rfl; exact rfl; exact tyOk rfl; exact rfl; exact rfl; exact rfl; decide; (first | omega | (dsimp only; omega) | (dsimp only; simp only [List.length_map, List.length_append, List.length_cons, List.length_nil] at *; omega) | (simp only [List.length_map, List.length_append, List.length_cons, List.length_nil] at *; omega) | (simp; omega)); (first | omega | (dsimp only; omega) | (dsimp only; simp only [List.length_map, List.length_append, List.length_cons, List.length_nil] at *; omega) | (simp only [List.length_map, List.length_append, List.length_cons, List.length_nil] at *; omega) | (simp; omega)); exact rfl)) | ((first | (with_reducible apply rpN) | (with_reducible apply drN)); first | (exact does_int_to (z := iD (sib q : Nat)) rfl rfl trivial (congrArg (fun z => D.sc (.int .i64 z)) hx)) | (exact does_build_f (tyOk rfl) rfl (tyOk rfl) rfl rfl rfl rfl (by decide))))
      refine aw_cond rfl (fun he => absurd he (by decide)) (fun he => ?_)
      clear he
      repeat (first | (with_reducible apply aw_reg) | (with_reducible apply rp_nil) | (with_reducible apply ae_norm) | (with_reducible apply be_norm) | (with_reducible apply aw_skip) | ((with_reducible apply be_other); exact rfl) | ((with_reducible apply dr_nil); first | kernel_rfl | exact rfl) | ((first | (with_reducible apply rp) | (with_reducible apply dr)); first | (exact does_quo_to (k := q / 2) (n := 2) rfl rfl rfl (by omega) (by omega)) | ((with_reducible apply does_move); (conv => lhs; whnf)) | ((with_reducible apply does_assign); (conv => lhs; whnf))) | ((first | (with_reducible apply rp1) | (with_reducible apply dr1)); first | (exact does_quo_to (k := q / 2) (n := 2) rfl rfl rfl (by omega) (by omega))) | ((first | (with_reducible apply rp2) | (with_reducible apply dr2)); first | (exact does_quo_to (k := q / 2) (n := 2) rfl rfl rfl (by omega) (by omega))) | ((first | (with_reducible apply rpN) | (with_reducible apply drN)); first | (exact does_quo_to (k := q / 2) (n := 2) rfl rfl rfl (by omega) (by omega))))
      refine ⟨_, _, ?_, ?_, k, v, q / 2, out ++ [p], by omega, hul, by omega, by omega, hpo2, by simp; omega, by simp; omega, rfl, rfl⟩
      · omega
      · refine forget_of [(1000, 40)] (by repeat' (first | exact ks_nil | (refine ks_cons rfl (by first | exact SubA.refl _ | exact SubA.d (SubD.nil _) | exact subA_ow (by first | rfl | (simp; done) | (simp; omega)) | exact subA_i (by first | rfl | (simp; done) | (simp; omega) | omega) | (refine SubA.of_eq ?_; first | rfl | (simp; done) | (simp; omega))) ?_))) ?_ rfl (by repeat' (first | exact trivial | exact insB_map _ | exact inB_ow rfl | exact inB_px rfl | exact inB_pr rfl | refine And.intro ?_ ?_)) (by repeat' (first | exact trivial | exact insB_map _ | exact inB_ow rfl | exact inB_px rfl | exact inB_pr rfl | refine And.intro ?_ ?_))
        refine kb_cons rfl (row_eq ?_) kb_nil
        rw [List.map_append]; rfl
def nodeF (m : Int) (a b : List UInt8) : List UInt8 × Nat := if 10 + a.length + b.length ≤ 16777216 then (dig m 2 [a, b], 0) else ([], 1)
theorem nodeR_pc (m : Int) (hm : m = 1 ∨ m = 2) (a b : List UInt8) : PC Tryd.prog 53 [iD m, byD a, byD b] (.tu [byD (nodeF m a b).1, iD (nodeF m a b).2]) := by
  unfold nodeF
  by_cases h : 10 + a.length + b.length ≤ 16777216
  · rw [if_pos h]
    exact node_pc m hm a b h
  · rw [if_neg h]
    have d1 : PC Tryd.prog 34 [iD m, iD 2, byL [a, b]] (.tu [byD [], iD 1]) := digest_err_pc m hm 2 [a, b] (by omega) (by omega) (by simp) (by simp [sumL]; omega)
    show PC _ _ _ (.tu [byD [], iD 1])
    clear h
    refine pc_of_aw Tryd.func53 rfl (by kernel_rfl) mixed (by kernel_rfl) (by rw [Tryd.ntmps53]; exact Nat.le_of_ble_eq_true rfl) Tryd.results53 ?_
    repeat (first | (with_reducible apply aw_seq) | (with_reducible apply aw_reg) | (with_reducible apply rp_nil) | (with_reducible apply ae_norm) | (with_reducible apply aw_ret) | (with_reducible apply re_ret) | ((with_reducible apply be_other); exact rfl) | ((with_reducible apply dr_nil); first | kernel_rfl | exact rfl) | ((first | (with_reducible apply rp) | (with_reducible apply dr)); first | ((with_reducible apply does_call_flat); exact rfl; exact rfl; exact (d1); exact rfl) | ((with_reducible apply does_call'); exact rfl; exact rfl; exact rfl; exact (d1)) | ((with_reducible apply does_move); (conv => lhs; whnf)) | ((with_reducible apply does_assign); (conv => lhs; whnf)) | ((with_reducible apply does_extract); exact rfl; exact rfl)) | ((first | (with_reducible apply rp1) | (with_reducible apply dr1)); first | ((with_reducible apply does_call1); exact rfl; exact rfl; exact rfl; exact (d1)) | ((with_reducible apply does_buildSlice); exact tyOk rfl; exact rfl; exact tyOk rfl; exact rfl; exact rfl; (focus repeat' (first | exact trivial | refine And.intro rfl (And.intro rfl ?_))); decide; decide; exact rfl)))
    (with_reducible apply ret_ok); (focus (repeat' (first | (with_reducible apply rv_nil) | (with_reducible apply rv_cons) | ((with_reducible apply rv_tmp); exact rfl) | ((with_reducible apply rv_cell); exact rfl; exact rfl; exact tyOk rfl; exact rfl; exact rfl) | ((with_reducible apply rv_rowd); exact rfl; exact rfl; exact tyOk rfl; exact rfl; (first | (with_reducible assumption) | exact rfl | ((try simp only [List.length_map]); first | assumption | omega) | (simp; omega))) | ((with_reducible apply rv_row); exact rfl; exact rfl; exact tyOk rfl; exact rfl; (first | exact Nat.le_of_ble_eq_true rfl | omega | (simp; omega)))))); (first | exact rfl | (focus repeat' (first | exact frzVs_one (frzV_map _ _) | exact rfl | (apply frzVs_cons; (first | exact frzV_map _ _ | exact rfl))))); refine SubD.of_eq ?_
    rfl
/-- What CheckPath tells, from so many on. -/
def chkG (m : Int) (top : List UInt8) : List (List UInt8) → Nat → Nat → List UInt8 → Nat
  | [], n, _, d => if n = 1 ∧ (d == top) = true then 0 else 10
  | p :: ps, n, i, d => if n = 1 then 10 else
    if i % 2 = 1 then (if (nodeF m p d).2 = 0 then chkG m top ps (n / 2) (i / 2) (nodeF m p d).1 else 10)
    else (if (nodeF m d p).2 = 0 then chkG m top ps (n / 2) (i / 2) (nodeF m d p).1 else 10)
end Go.Proofs.YtagbajdjpfafoaaDoor
