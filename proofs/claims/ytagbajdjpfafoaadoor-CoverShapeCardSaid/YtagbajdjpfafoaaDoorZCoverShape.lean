/-
  The law CoverShape returns true. No condition.
-/
import Derived.Test.YtagbajdjpfafoaaDoorZCoverRight
namespace Go.Proofs.YtagbajdjpfafoaaDoor
set_option linter.unusedSimpArgs false
set_option linter.unusedVariables false
open Go.RowKit

set_option maxHeartbeats 1000000 in
theorem slotsOf_pco (l : List Raw) : PCO Tryd.prog 19 [rawsD l] 40 3 ((slF l).map Sl3.cs) [] := by
  have hn : slF l = (List.range (nS l.length)).map fun i => slotR (rawAt l i) := rfl
  rw [hn]
  refine pco_of_aw Tryd.func19 rfl (by kernel_rfl) mixed (by kernel_rfl) (by rw [Tryd.ntmps19]; exact Nat.le_of_ble_eq_true rfl) Tryd.results19 ?_
  repeat (first | (with_reducible apply aw_seq) | (with_reducible apply aw_reg) | (with_reducible apply rp_nil) | (with_reducible apply ae_norm) | (with_reducible apply aw_block) | ((with_reducible apply be_other); exact rfl) | ((with_reducible apply dr_nil); first | kernel_rfl | exact rfl) | ((first | (with_reducible apply rp) | (with_reducible apply dr)); first | ((with_reducible apply does_assign); (conv => lhs; whnf))))
  refine aw_loop (fun n s => ∃ k, (k = 1 ∨ k = 2 ∨ k = 4 ∨ k = 8 ∨ k = 16) ∧ (k = 1 ∨ k ≤ l.length) ∧ n = 16 - k ∧ s = ⟨[(0, .d (rawsD l)), (3, .d (iD k))], []⟩) _ _ ?_ ⟨1, .inl rfl, .inl rfl, rfl, rfl⟩ ?_
  · refine forget_of [] (by repeat' (first | exact ks_nil | (refine ks_cons rfl (by first | exact SubA.refl _ | exact SubA.d (SubD.nil _) | exact subA_ow (by first | rfl | (simp; done) | (simp; omega)) | exact subA_i (by first | rfl | (simp; done) | (simp; omega) | omega) | (refine SubA.of_eq ?_; first | rfl | (simp; done) | (simp; omega))) ?_))) (by repeat' (first | exact trivial | exact rfl | exact kb_d rfl | refine And.intro ?_ ?_)) rfl (by repeat' (first | exact trivial | exact insB_map _ | exact inB_ow rfl | exact inB_px rfl | exact inB_pr rfl | refine And.intro ?_ ?_)) (by repeat' (first | exact trivial | exact insB_map _ | exact inB_ow rfl | exact inB_px rfl | exact inB_pr rfl | refine And.intro ?_ ?_))
  · rintro n s ⟨k, hk, hk2, rfl, rfl⟩
    repeat (first | (with_reducible apply aw_seq) | (with_reducible apply aw_reg) | (with_reducible apply rp_nil) | (with_reducible apply ae_norm) | ((with_reducible apply be_other); exact rfl) | ((with_reducible apply dr_nil); first | kernel_rfl | exact rfl) | ((first | (with_reducible apply rp) | (with_reducible apply dr)); first | (exact does_mul_to (z := ((k * 2 : Nat) : Int)) rfl rfl (by omega) (by omega) (by omega)) | (exact does_min_nat (a := l.length) (b := 16) rfl rfl rfl rfl) | ((with_reducible apply does_move); (conv => lhs; whnf)) | ((with_reducible apply does_le); exact rfl; exact rfl) | ((with_reducible apply does_len_map); exact tyOk rfl; exact rfl; exact rfl)) | ((first | (with_reducible apply rp1) | (with_reducible apply dr1)); first | (exact does_mul_to (z := ((k * 2 : Nat) : Int)) rfl rfl (by omega) (by omega) (by omega)) | (exact does_min_nat (a := l.length) (b := 16) rfl rfl rfl rfl)) | ((first | (with_reducible apply rp2) | (with_reducible apply dr2)); first | (exact does_mul_to (z := ((k * 2 : Nat) : Int)) rfl rfl (by omega) (by omega) (by omega)) | (exact does_min_nat (a := l.length) (b := 16) rfl rfl rfl rfl)) | ((first | (with_reducible apply rpN) | (with_reducible apply drN)); first | (exact does_mul_to (z := ((k * 2 : Nat) : Int)) rfl rfl (by omega) (by omega) (by omega)) | (exact does_min_nat (a := l.length) (b := 16) rfl rfl rfl rfl)))
    refine aw_cond rfl (fun hd => ?_) (fun hd => ?_)
    · have hlt : k * 2 ≤ min l.length 16 := by simp at hd; omega
      clear hd
      repeat (first | (with_reducible apply aw_reg) | (with_reducible apply rp_nil) | (with_reducible apply ae_norm) | (with_reducible apply aw_block) | (with_reducible apply be_norm) | (with_reducible apply aw_skip) | ((with_reducible apply be_other); exact rfl) | ((with_reducible apply dr_nil); first | kernel_rfl | exact rfl) | ((first | (with_reducible apply rp) | (with_reducible apply dr)); first | (exact does_mul_to (z := ((k * 2 : Nat) : Int)) rfl rfl (by omega) (by omega) (by omega)) | ((with_reducible apply does_move); (conv => lhs; whnf)) | ((with_reducible apply does_assign); (conv => lhs; whnf))) | ((first | (with_reducible apply rp1) | (with_reducible apply dr1)); first | (exact does_mul_to (z := ((k * 2 : Nat) : Int)) rfl rfl (by omega) (by omega) (by omega))) | ((first | (with_reducible apply rp2) | (with_reducible apply dr2)); first | (exact does_mul_to (z := ((k * 2 : Nat) : Int)) rfl rfl (by omega) (by omega) (by omega))) | ((first | (with_reducible apply rpN) | (with_reducible apply drN)); first | (exact does_mul_to (z := ((k * 2 : Nat) : Int)) rfl rfl (by omega) (by omega) (by omega))))
      refine ⟨_, _, ?_, ?_, k * 2, by omega, by omega, rfl, rfl⟩
      · omega
      · refine forget_of [] (by repeat' (first | exact ks_nil | (refine ks_cons rfl (by first | exact SubA.refl _ | exact SubA.d (SubD.nil _) | exact subA_ow (by first | rfl | (simp; done) | (simp; omega)) | exact subA_i (by first | rfl | (simp; done) | (simp; omega) | omega) | (refine SubA.of_eq ?_; first | rfl | (simp; done) | (simp; omega))) ?_))) (by repeat' (first | exact trivial | exact rfl | exact kb_d rfl | refine And.intro ?_ ?_)) rfl (by repeat' (first | exact trivial | exact insB_map _ | exact inB_ow rfl | exact inB_px rfl | exact inB_pr rfl | refine And.intro ?_ ?_)) (by repeat' (first | exact trivial | exact insB_map _ | exact inB_ow rfl | exact inB_px rfl | exact inB_pr rfl | refine And.intro ?_ ?_))
    · have hge : ¬ k * 2 ≤ min l.length 16 := by simp at hd; omega
      have hkn : nS l.length = k := by
        unfold nS
        repeat' split
        all_goals omega
      rw [hkn]
      clear hd hkn hn
      repeat (first | (with_reducible apply aw_seq) | (with_reducible apply aw_reg) | (with_reducible apply rp_nil) | (with_reducible apply ae_norm) | (with_reducible apply aw_block) | (with_reducible apply aw_exit) | (with_reducible apply ae_exit) | (with_reducible apply be_exit) | ((with_reducible apply be_other); exact rfl) | ((with_reducible apply dr_nil); first | kernel_rfl | exact rfl) | ((first | (with_reducible apply rp) | (with_reducible apply dr)); first | ((with_reducible apply does_move); (conv => lhs; whnf)) | ((with_reducible apply does_assign); (conv => lhs; whnf))))
      refine aw_loop (fun n s => ∃ i, i ≤ k ∧ n = k - i ∧ s = ⟨[(0, .d (rawsD l)), (4, .ow 1000 i), (15, .d (iD k)), (16, .d (iD i))], [(1000, .row 40 3 (((List.range i).map fun i => slotR (rawAt l i)).map Sl3.cs))]⟩) _ _ ?_ ⟨0, by omega, rfl, rfl⟩ ?_
      · refine Ent.trans (ent_nil 4 1000 40 3 rfl rfl) ?_
        refine forget_of [] (by repeat' (first | exact ks_nil | (refine ks_cons rfl (by first | exact SubA.refl _ | exact SubA.d (SubD.nil _) | exact subA_ow (by first | rfl | (simp; done) | (simp; omega)) | exact subA_i (by first | rfl | (simp; done) | (simp; omega) | omega) | (refine SubA.of_eq ?_; first | rfl | (simp; done) | (simp; omega))) ?_))) (by repeat' (first | exact trivial | exact rfl | exact kb_d rfl | refine And.intro ?_ ?_)) rfl (by repeat' (first | exact trivial | exact insB_map _ | exact inB_ow rfl | exact inB_px rfl | exact inB_pr rfl | refine And.intro ?_ ?_)) (by repeat' (first | exact trivial | exact insB_map _ | exact inB_ow rfl | exact inB_px rfl | exact inB_pr rfl | refine And.intro ?_ ?_))
      · rintro n s ⟨i, hi, rfl, rfl⟩
        have hol : (((List.range i).map fun i => slotR (rawAt l i)).map Sl3.cs).length = i := by simp
        have hst : ((List.range (i + 1)).map fun i => slotR (rawAt l i)).map Sl3.cs = ((List.range i).map fun i => slotR (rawAt l i)).map Sl3.cs ++ [(slotR (rawAt l i)).cs] := by
          rw [List.range_succ]; simp
        obtain ⟨o, ho⟩ : ∃ o, ((List.range i).map fun i => slotR (rawAt l i)).map Sl3.cs = o := ⟨_, rfl⟩
        rw [ho] at hol hst ⊢
        repeat (first | (with_reducible apply aw_seq) | (with_reducible apply aw_reg) | (with_reducible apply rp_nil) | (with_reducible apply ae_norm) | ((with_reducible apply be_other); exact rfl) | ((with_reducible apply dr_nil); first | kernel_rfl | exact rfl) | ((first | (with_reducible apply rp) | (with_reducible apply dr)); first | ((with_reducible apply does_lt); exact rfl; exact rfl)))
        refine aw_cond rfl (fun hd => ?_) (fun hd => ?_)
        · have hlt : i < k := by simp at hd; omega
          clear hd
          repeat (first | (with_reducible apply aw_seq) | (with_reducible apply aw_reg) | (with_reducible apply rp_nil) | (with_reducible apply ae_norm) | (with_reducible apply aw_block) | (with_reducible apply aw_skip) | ((with_reducible apply be_other); exact rfl) | ((with_reducible apply dr_nil); first | kernel_rfl | exact rfl) | ((first | (with_reducible apply rp) | (with_reducible apply dr)); first | ((with_reducible apply does_move); (conv => lhs; whnf)) | ((with_reducible apply does_assign); (conv => lhs; whnf)) | ((with_reducible apply does_lt); exact rfl; exact rfl) | ((with_reducible apply does_len_map); exact tyOk rfl; exact rfl; exact rfl) | ((with_reducible apply does_zeroA); exact tyOk rfl; exact rfl; decide) | ((with_reducible apply does_zeroS); exact tyOk rfl; exact rfl; exact rfl)) | ((first | (with_reducible apply rp1) | (with_reducible apply dr1)); first | ((with_reducible apply does_alloc); exact tyOk rfl; exact rfl)) | ((first | (with_reducible apply rpN) | (with_reducible apply drN)); first | ((with_reducible apply does_store); exact tyOk rfl; exact rfl; exact rfl; (conv => lhs; whnf); exact rfl; exact rfl; (first | exact Nat.le_of_ble_eq_true rfl | omega | (simp; omega))) | ((with_reducible apply does_store_whole); exact tyOk rfl; exact rfl; exact rfl; exact rfl; exact rfl; exact rfl)))
          refine aw_cond rfl (fun hd => ?_) (fun hd => ?_)
          · have hil : i < l.length := by simp at hd; omega
            obtain ⟨r, hr⟩ : ∃ r, l[i]? = some r := ⟨_, List.getElem?_eq_getElem hil⟩
            have hra : rawAt l i = r := by unfold rawAt; rw [hr]; rfl
            have p1 := slotOf_pc r
            rw [hra] at hst
            clear hd
            generalize slotR r = z at *
            repeat (first | (with_reducible apply aw_reg) | (with_reducible apply rp_nil) | (with_reducible apply ae_norm) | (with_reducible apply be_norm) | ((with_reducible apply be_other); exact rfl) | ((with_reducible apply dr_nil); first | kernel_rfl | exact rfl) | ((first | (with_reducible apply rp) | (with_reducible apply dr)); first | ((with_reducible apply does_call_flat); exact rfl; exact rfl; exact (p1); exact rfl) | ((with_reducible apply does_call'); exact rfl; exact rfl; exact rfl; exact (p1)) | ((with_reducible apply does_move); (conv => lhs; whnf)) | ((with_reducible apply does_assign); (conv => lhs; whnf)) | ((with_reducible apply does_load_var); exact tyOk rfl; exact rfl; exact rfl; exact rfl; exact rfl) | ((with_reducible apply does_load_elem); exact tyOk rfl; exact rfl; exact rfl; (first | assumption | exact map_get (by assumption) | exact rfl); exact rfl) | ((with_reducible apply does_load_own); exact tyOk rfl; exact rfl; exact rfl; exact rfl; (first | assumption | exact map_get (by assumption) | exact rfl); exact rfl) | ((with_reducible apply does_load_row); exact tyOk rfl; exact rfl; exact rfl; exact rfl; (first | exact Nat.le_of_ble_eq_true rfl | omega | (simp; omega)); exact rfl) | ((with_reducible apply does_load_elem_whole); exact tyOk rfl; exact rfl; exact rfl; (first | assumption | exact map_get (by assumption) | exact rfl); exact rfl) | ((with_reducible apply does_index_sl); exact tyOk rfl; exact rfl; exact tyOk rfl; exact rfl; exact rfl; exact rfl; exact rfl; (first | omega | (dsimp only; omega) | (dsimp only; simp only [List.length_map, List.length_append, List.length_cons, List.length_nil] at *; omega) | (simp only [List.length_map, List.length_append, List.length_cons, List.length_nil] at *; omega) | (simp; omega))) | ((with_reducible apply does_add); exact rfl; exact rfl; omega; omega)) | ((first | (with_reducible apply rp1) | (with_reducible apply dr1)); first | ((with_reducible apply does_call1); exact rfl; exact rfl; exact rfl; exact (p1)) | ((with_reducible apply does_buildSlice); exact tyOk rfl; exact rfl; exact tyOk rfl; exact rfl; exact rfl; (focus repeat' (first | exact trivial | refine And.intro rfl (And.intro rfl ?_))); decide; decide; exact rfl) | ((with_reducible apply does_append_nil); exact tyOk rfl; exact rfl; exact tyOk rfl; exact rfl; exact rfl; decide; (first | omega | (dsimp only; omega) | (dsimp only; simp only [List.length_map, List.length_append, List.length_cons, List.length_nil] at *; omega) | (simp only [List.length_map, List.length_append, List.length_cons, List.length_nil] at *; omega) | (simp; omega)); (first | omega | (dsimp only; omega) | (dsimp only; simp only [List.length_map, List.length_append, List.length_cons, List.length_nil] at *; omega) | (simp only [List.length_map, List.length_append, List.length_cons, List.length_nil] at *; omega) | (simp; omega)); exact rfl)) | ((first | (with_reducible apply rp2) | (with_reducible apply dr2)); first | ((with_reducible apply does_append_own); exact tyOk rfl; exact rfl; exact tyOk rfl; exact rfl; exact rfl; exact rfl; decide; (first | omega | (dsimp only; omega) | (dsimp only; simp only [List.length_map, List.length_append, List.length_cons, List.length_nil] at *; omega) | (simp only [List.length_map, List.length_append, List.length_cons, List.length_nil] at *; omega) | (simp; omega)); (first | omega | (dsimp only; omega) | (dsimp only; simp only [List.length_map, List.length_append, List.length_cons, List.length_nil] at *; omega) | (simp only [List.length_map, List.length_append, List.length_cons, List.length_nil] at *; omega) | (simp; omega)); exact rfl)) | ((first | (with_reducible apply rpN) | (with_reducible apply drN)); first | ((with_reducible apply does_store); exact tyOk rfl; exact rfl; exact rfl; (conv => lhs; whnf); exact rfl; exact rfl; (first | exact Nat.le_of_ble_eq_true rfl | omega | (simp; omega))) | ((with_reducible apply does_store_whole); exact tyOk rfl; exact rfl; exact rfl; exact rfl; exact rfl; exact rfl)))
            refine ⟨_, _, ?_, ?_, i + 1, by omega, rfl, rfl⟩
            · omega
            · rw [hst]
              refine forget_of [(1000, 32)] (by repeat' (first | exact ks_nil | (refine ks_cons rfl (by first | exact SubA.refl _ | exact SubA.d (SubD.nil _) | exact subA_ow (by first | rfl | (simp; done) | (simp; omega)) | exact subA_i (by first | rfl | (simp; done) | (simp; omega) | omega) | (refine SubA.of_eq ?_; first | rfl | (simp; done) | (simp; omega))) ?_))) ?_ rfl (by repeat' (first | exact trivial | exact insB_map _ | exact inB_ow rfl | exact inB_px rfl | exact inB_pr rfl | refine And.intro ?_ ?_)) (by repeat' (first | exact trivial | exact insB_map _ | exact inB_ow rfl | exact inB_px rfl | exact inB_pr rfl | refine And.intro ?_ ?_))
              exact kb_cons rfl (row_eq rfl) kb_nil
          · have hil : l.length ≤ i := by simp at hd; omega
            have hra : rawAt l i = raw0 := by unfold rawAt; rw [List.getElem?_eq_none hil]; rfl
            have p1 := slotOf_pc raw0
            rw [hra] at hst
            clear hd
            generalize slotR raw0 = z at *
            repeat (first | (with_reducible apply aw_reg) | (with_reducible apply rp_nil) | (with_reducible apply ae_norm) | (with_reducible apply be_norm) | (with_reducible apply aw_skip) | ((with_reducible apply be_other); exact rfl) | ((with_reducible apply dr_nil); first | kernel_rfl | exact rfl) | ((first | (with_reducible apply rp) | (with_reducible apply dr)); first | ((with_reducible apply does_call_flat); exact rfl; exact rfl; exact (p1); exact rfl) | ((with_reducible apply does_call'); exact rfl; exact rfl; exact rfl; exact (p1)) | ((with_reducible apply does_move); (conv => lhs; whnf)) | ((with_reducible apply does_assign); (conv => lhs; whnf)) | ((with_reducible apply does_load_var); exact tyOk rfl; exact rfl; exact rfl; exact rfl; exact rfl) | ((with_reducible apply does_load_elem); exact tyOk rfl; exact rfl; exact rfl; (first | assumption | exact map_get (by assumption) | exact rfl); exact rfl) | ((with_reducible apply does_load_own); exact tyOk rfl; exact rfl; exact rfl; exact rfl; (first | assumption | exact map_get (by assumption) | exact rfl); exact rfl) | ((with_reducible apply does_load_row); exact tyOk rfl; exact rfl; exact rfl; exact rfl; (first | exact Nat.le_of_ble_eq_true rfl | omega | (simp; omega)); exact rfl) | ((with_reducible apply does_add); exact rfl; exact rfl; omega; omega)) | ((first | (with_reducible apply rp1) | (with_reducible apply dr1)); first | ((with_reducible apply does_call1); exact rfl; exact rfl; exact rfl; exact (p1)) | ((with_reducible apply does_buildSlice); exact tyOk rfl; exact rfl; exact tyOk rfl; exact rfl; exact rfl; (focus repeat' (first | exact trivial | refine And.intro rfl (And.intro rfl ?_))); decide; decide; exact rfl) | ((with_reducible apply does_append_nil); exact tyOk rfl; exact rfl; exact tyOk rfl; exact rfl; exact rfl; decide; (first | omega | (dsimp only; omega) | (dsimp only; simp only [List.length_map, List.length_append, List.length_cons, List.length_nil] at *; omega) | (simp only [List.length_map, List.length_append, List.length_cons, List.length_nil] at *; omega) | (simp; omega)); (first | omega | (dsimp only; omega) | (dsimp only; simp only [List.length_map, List.length_append, List.length_cons, List.length_nil] at *; omega) | (simp only [List.length_map, List.length_append, List.length_cons, List.length_nil] at *; omega) | (simp; omega)); exact rfl)) | ((first | (with_reducible apply rp2) | (with_reducible apply dr2)); first | ((with_reducible apply does_append_own); exact tyOk rfl; exact rfl; exact tyOk rfl; exact rfl; exact rfl; exact rfl; decide; (first | omega | (dsimp only; omega) | (dsimp only; simp only [List.length_map, List.length_append, List.length_cons, List.length_nil] at *; omega) | (simp only [List.length_map, List.length_append, List.length_cons, List.length_nil] at *; omega) | (simp; omega)); (first | omega | (dsimp only; omega) | (dsimp only; simp only [List.length_map, List.length_append, List.length_cons, List.length_nil] at *; omega) | (simp only [List.length_map, List.length_append, List.length_cons, List.length_nil] at *; omega) | (simp; omega)); exact rfl)))
            refine ⟨_, _, ?_, ?_, i + 1, by omega, rfl, rfl⟩
            · omega
            · rw [hst]
              refine forget_of [(1000, 32)] (by repeat' (first | exact ks_nil | (refine ks_cons rfl (by first | exact SubA.refl _ | exact SubA.d (SubD.nil _) | exact subA_ow (by first | rfl | (simp; done) | (simp; omega)) | exact subA_i (by first | rfl | (simp; done) | (simp; omega) | omega) | (refine SubA.of_eq ?_; first | rfl | (simp; done) | (simp; omega))) ?_))) ?_ rfl (by repeat' (first | exact trivial | exact insB_map _ | exact inB_ow rfl | exact inB_px rfl | exact inB_pr rfl | refine And.intro ?_ ?_)) (by repeat' (first | exact trivial | exact insB_map _ | exact inB_ow rfl | exact inB_px rfl | exact inB_pr rfl | refine And.intro ?_ ?_))
              exact kb_cons rfl (row_eq rfl) kb_nil
        · have hke : i = k := by simp at hd; omega
          clear hd hst
          subst hke
          repeat (first | (with_reducible apply aw_seq) | (with_reducible apply aw_reg) | (with_reducible apply rp_nil) | (with_reducible apply ae_norm) | (with_reducible apply aw_exit) | (with_reducible apply ae_exit) | (with_reducible apply be_exit) | (with_reducible apply aw_ret) | (with_reducible apply oe_ret) | ((with_reducible apply be_other); exact rfl) | ((with_reducible apply dr_nil); first | kernel_rfl | exact rfl) | ((first | (with_reducible apply rp) | (with_reducible apply dr)); first | ((with_reducible apply does_move); (conv => lhs; whnf)) | ((with_reducible apply does_assign); (conv => lhs; whnf))))
          (with_reducible apply reto_ok); (focus (repeat' (first | (with_reducible apply rv_nil) | (with_reducible apply rv_cons) | ((with_reducible apply rv_tmp); exact rfl) | ((with_reducible apply rv_cell); exact rfl; exact rfl; exact tyOk rfl; exact rfl; exact rfl) | ((with_reducible apply rv_rowd); exact rfl; exact rfl; exact tyOk rfl; exact rfl; (first | (with_reducible assumption) | exact rfl | ((try simp only [List.length_map]); first | assumption | omega) | (simp; omega))) | ((with_reducible apply rv_row); exact rfl; exact rfl; exact tyOk rfl; exact rfl; (first | exact Nat.le_of_ble_eq_true rfl | omega | (simp; omega)))))); exact rfl; exact rfl; exact rfl
          rw [← ho]
def restN : Nat → List Bool → Nat
  | 0, o => if anyB o = true then 0 else 1
  | j + 1, o => if anyB o = true then restN j (o.take (2 ^ j)) + restN j (o.drop (2 ^ j)) else 1
theorem covF_restN (m : Int) : ∀ (j : Nat) (l : List Sl3) (o : List Bool), (covF m j l o).2.length = restN j o
  | 0, l, o => by
    unfold covF restN
    split <;> rfl
  | j + 1, l, o => by
    unfold covF restN
    split
    · rw [List.length_append, covF_restN m j, covF_restN m j]
    · rfl
theorem shape_pos (j : Nat) (o : List Bool) : 0 < cntB o + restN j o := by
  cases h : anyB o with
  | true =>
    have : 0 < cntB o := by
      unfold anyB at h
      rw [List.any_eq_true] at h
      obtain ⟨b, h1, h2⟩ := h
      exact List.length_pos_of_mem (List.mem_filter.2 ⟨h1, h2⟩)
    omega
  | false =>
    have : restN j o = 1 := by cases j <;> (unfold restN; rw [if_neg (by rw [h]; decide)])
    omega
theorem dig1_len (tag : Int) (l : List (List UInt8)) : (dig 1 tag l).length = 32 := by
  unfold dig
  rw [if_neg (by decide)]
  exact sumF_len _
theorem rootSF_32 {j : Nat} {l : List Sl3} (h : l.length = 2 ^ j) (hj : 2 ^ j ≤ 16) : (rootSF 1 l).length = 32 := by
  cases j with
  | zero =>
    rw [rootSF_two 1 h hj]
    match l, h with
    | [s], _ => simp only [rootR, leavesF, List.map_cons, List.map_nil, List.getD_cons_zero, leafS, dig1_len]
  | succ j =>
    rw [rootSF_split 1 h hj]
    exact dig1_len _ _
theorem covF_32 : ∀ (j : Nat) (l : List Sl3) (o : List Bool), l.length = 2 ^ j → 2 ^ j ≤ 16 → ∀ d ∈ (covF 1 j l o).2, d.length = 32
  | 0, l, o, h, hj => by
    have := rootSF_32 h hj
    unfold covF
    split
    · intro d hd; cases hd
    · intro d hd
      rw [List.mem_singleton.1 hd]; exact this
  | j + 1, l, o, h, hj => by
    have hp : 2 ^ (j + 1) = 2 * 2 ^ j := by rw [Nat.pow_succ]; omega
    have k1 : (l.take (2 ^ j)).length = 2 ^ j := by rw [List.length_take]; omega
    have k2 : (l.drop (2 ^ j)).length = 2 ^ j := by rw [List.length_drop]; omega
    have i1 := covF_32 j (l.take (2 ^ j)) (o.take (2 ^ j)) k1 (by omega)
    have i2 := covF_32 j (l.drop (2 ^ j)) (o.drop (2 ^ j)) k2 (by omega)
    have := rootSF_32 h hj
    unfold covF
    split
    · intro d hd
      rcases List.mem_append.1 hd with hd | hd
      · exact i1 d hd
      · exact i2 d hd
    · intro d hd
      rw [List.mem_singleton.1 hd]; exact this
set_option maxHeartbeats 4000000 in
theorem coverShape_pc (l l' : List Raw) (w : Int) : PC Tryd.prog 5 [rawsD l, rawsD l', iD w] (bD true) := by
  have q1 := slotsOf_pc l
  have hl := slF_len l
  have hok := slF_ok l
  generalize slF l = s at *
  have hp := logS_pow hl
  have hl16 : s.length ≤ 16 := by omega
  have op := opens_pc s w (by omega)
  have ho := opnF_len w s.length
  generalize opnF w s.length = o at *
  have hcov : ∀ t : List Sl3, t.length = s.length → (∀ x ∈ t, x.ok) → ∃ (C : List Sl3) (R : List (List UInt8)), PC Tryd.prog 21 [iD 1, slotsD t, boolsD o] (.tu [.ag [slotsD C, byL R], iD 0]) ∧ C.length = cntB o ∧ R.length = restN (logS s.length) o ∧ (∀ d ∈ R, d.length = 32) := fun t ht htok => by
    have h1 := coverOf_pc 1 (.inl rfl) t o (by rw [ht]; exact hl) (by omega) htok
    rw [ht] at h1
    refine ⟨_, _, h1, ?_, covF_restN 1 _ t o, covF_32 _ t o (by rw [ht]; exact hp) (by omega)⟩
    rw [covF_sel 1 _ t o (by rw [ht]; exact hp) (ho.trans hp), selB_len t o (by omega)]
  have hN := shape_pos (logS s.length) o
  have hc16 : cntB o ≤ 16 := Nat.le_trans (List.length_filter_le _ _) (by omega)
  have hr16 : restN (logS s.length) o ≤ 16 := by
    have := (covF_len 1 (logS s.length) s o hp).2
    rw [covF_restN] at this
    omega
  obtain ⟨C, R, c1, cl, rl, r32⟩ := hcov s rfl hok
  have q2 := slotsOf_pco l'
  have hl2 := slF_len l'
  have hok2 := slF_ok l'
  generalize slF l' = t at *
  generalize restN (logS s.length) o = N at *
  have ht0 : 0 < t.length ∧ t.length ≤ 16 := by omega
  clear hl hok hp hl2
  refine pc_of_aw Tryd.func5 rfl (by kernel_rfl) mixed (by kernel_rfl) (by rw [Tryd.ntmps5]; exact Nat.le_of_ble_eq_true rfl) Tryd.results5 ?_
  repeat (first | (with_reducible apply aw_seq) | (with_reducible apply aw_reg) | (with_reducible apply rp_nil) | (with_reducible apply ae_norm) | (with_reducible apply aw_block) | ((with_reducible apply be_other); exact rfl) | ((with_reducible apply dr_nil); first | kernel_rfl | exact rfl) | ((first | (with_reducible apply rp) | (with_reducible apply dr)); first | ((with_reducible apply does_call_flat); exact rfl; exact rfl; exact (q1); exact rfl) | ((with_reducible apply does_call'); exact rfl; exact rfl; exact rfl; exact (q1)) | ((with_reducible apply does_move); (conv => lhs; whnf)) | ((with_reducible apply does_assign); (conv => lhs; whnf))) | ((first | (with_reducible apply rp1) | (with_reducible apply dr1)); first | ((with_reducible apply does_call1); exact rfl; exact rfl; exact rfl; exact (q1)) | ((with_reducible apply does_callO'); exact rfl; exact rfl; exact rfl; exact (q2); (first | exact rfl | (simp; done) | (simp; omega)); exact rfl; (conv => lhs; whnf))) | ((first | (with_reducible apply rp2) | (with_reducible apply dr2)); first | ((with_reducible apply does_callO1); exact rfl; exact rfl; exact rfl; exact (q2); (first | exact rfl | (simp; done) | (simp; omega)); exact rfl; decide; (conv => lhs; whnf))))
  refine aw_loop (fun n s1 => ∃ T : List Sl3, 0 < T.length ∧ T.length ≤ 32 ∧ (∀ x ∈ T, x.ok) ∧ n = 32 - T.length ∧
    s1 = ⟨[(2, .d (iD w)), (7, .d (slotsD s)), (8, .ow 1000 T.length)], [(1000, .row 40 3 (T.map Sl3.cs))]⟩) _ _ ?_ ⟨t, ht0.1, by omega, hok2, rfl, rfl⟩ ?_
  · refine forget_of [(1000, 19)] (by repeat' (first | exact ks_nil | (refine ks_cons rfl (by first | exact SubA.refl _ | exact SubA.d (SubD.nil _) | exact subA_ow (by first | rfl | (simp; done) | (simp; omega)) | exact subA_i (by first | rfl | (simp; done) | (simp; omega) | omega) | (refine SubA.of_eq ?_; first | rfl | (simp; done) | (simp; omega))) ?_))) ?_ rfl (by repeat' (first | exact trivial | exact insB_map _ | exact inB_ow rfl | exact inB_px rfl | exact inB_pr rfl | refine And.intro ?_ ?_)) (by repeat' (first | exact trivial | exact insB_map _ | exact inB_ow rfl | exact inB_px rfl | exact inB_pr rfl | refine And.intro ?_ ?_))
    exact kb_cons rfl (row_eq rfl) kb_nil
  · rintro n1 s1 ⟨T, hT1, hT2, hTok, rfl, rfl⟩
    have hTm : (T.map Sl3.cs).length = T.length := by simp
    repeat (first | (with_reducible apply aw_seq) | (with_reducible apply aw_reg) | (with_reducible apply rp_nil) | (with_reducible apply ae_norm) | ((with_reducible apply be_other); exact rfl) | ((with_reducible apply dr_nil); first | kernel_rfl | exact rfl) | ((first | (with_reducible apply rp) | (with_reducible apply dr)); first | ((with_reducible apply does_move); (conv => lhs; whnf)) | ((with_reducible apply does_lt); exact rfl; exact rfl) | ((with_reducible apply does_len_map); exact tyOk rfl; exact rfl; exact rfl) | ((with_reducible apply does_len_sl); exact tyOk rfl; exact rfl; exact rfl) | ((with_reducible apply does_len_ow); exact tyOk rfl; exact rfl; exact rfl)))
    refine aw_cond rfl (fun hd => ?_) (fun hd => ?_)
    · have hlt : T.length < s.length := by simp at hd; omega
      clear hd
      have e1 : (T ++ T).map Sl3.cs = T.map Sl3.cs ++ T.map Sl3.cs := List.map_append
      have e2 : (T ++ T).length = T.length + T.length := List.length_append
      repeat (first | (with_reducible apply aw_reg) | (with_reducible apply rp_nil) | (with_reducible apply ae_norm) | (with_reducible apply aw_block) | (with_reducible apply be_norm) | (with_reducible apply aw_skip) | ((with_reducible apply be_other); exact rfl) | ((with_reducible apply dr_nil); first | kernel_rfl | exact rfl) | ((first | (with_reducible apply rp) | (with_reducible apply dr)); first | ((with_reducible apply does_move); (conv => lhs; whnf)) | ((with_reducible apply does_assign); (conv => lhs; whnf))) | ((first | (with_reducible apply rp1) | (with_reducible apply dr1)); first | ((with_reducible apply does_append_nil); exact tyOk rfl; exact rfl; exact tyOk rfl; exact rfl; exact rfl; decide; (first | omega | (dsimp only; omega) | (dsimp only; simp only [List.length_map, List.length_append, List.length_cons, List.length_nil] at *; omega) | (simp only [List.length_map, List.length_append, List.length_cons, List.length_nil] at *; omega) | (simp; omega)); (first | omega | (dsimp only; omega) | (dsimp only; simp only [List.length_map, List.length_append, List.length_cons, List.length_nil] at *; omega) | (simp only [List.length_map, List.length_append, List.length_cons, List.length_nil] at *; omega) | (simp; omega)); exact rfl)) | ((first | (with_reducible apply rp2) | (with_reducible apply dr2)); first | ((with_reducible apply does_append_own); exact tyOk rfl; exact rfl; exact tyOk rfl; exact rfl; exact rfl; exact rfl; decide; (first | omega | (dsimp only; omega) | (dsimp only; simp only [List.length_map, List.length_append, List.length_cons, List.length_nil] at *; omega) | (simp only [List.length_map, List.length_append, List.length_cons, List.length_nil] at *; omega) | (simp; omega)); (first | omega | (dsimp only; omega) | (dsimp only; simp only [List.length_map, List.length_append, List.length_cons, List.length_nil] at *; omega) | (simp only [List.length_map, List.length_append, List.length_cons, List.length_nil] at *; omega) | (simp; omega)); exact rfl)))
      refine ⟨_, _, ?_, ?_, T ++ T, by omega, by omega, fun x hx => by rcases List.mem_append.1 hx with h | h <;> exact hTok x h, rfl, rfl⟩
      · omega
      · rw [e1, e2]
        refine forget_of [(1000, 27)] (by repeat' (first | exact ks_nil | (refine ks_cons rfl (by first | exact SubA.refl _ | exact SubA.d (SubD.nil _) | exact subA_ow (by first | rfl | (simp; done) | (simp; omega)) | exact subA_i (by first | rfl | (simp; done) | (simp; omega) | omega) | (refine SubA.of_eq ?_; first | rfl | (simp; done) | (simp; omega))) ?_))) ?_ rfl (by repeat' (first | exact trivial | exact insB_map _ | exact inB_ow rfl | exact inB_px rfl | exact inB_pr rfl | refine And.intro ?_ ?_)) (by repeat' (first | exact trivial | exact insB_map _ | exact inB_ow rfl | exact inB_px rfl | exact inB_pr rfl | refine And.intro ?_ ?_))
        exact kb_cons rfl (row_eq rfl) kb_nil
    · have hge : s.length ≤ T.length := by simp at hd; omega
      clear hd
      obtain ⟨t2, ht2⟩ : ∃ t2, (T.take s.length).drop 0 = t2 := ⟨_, rfl⟩
      have h2 : T.take s.length = t2 := ht2
      obtain ⟨C2, R2, c2, cl2, rl2, r322⟩ := hcov t2 (by rw [← h2, List.length_take]; omega) (fun x hx => hTok x (by rw [← h2] at hx; exact List.mem_of_mem_take hx))
      clear hcov
      repeat (first | (with_reducible apply aw_seq) | (with_reducible apply aw_reg) | (with_reducible apply rp_nil) | (with_reducible apply ae_norm) | (with_reducible apply aw_regD) | (with_reducible apply aw_block) | (with_reducible apply aw_exit) | (with_reducible apply ae_exit) | (with_reducible apply be_exit) | ((with_reducible apply be_other); exact rfl) | ((with_reducible apply dr_nil); first | kernel_rfl | exact rfl) | ((first | (with_reducible apply rp) | (with_reducible apply dr)); first | (exact (by (with_reducible apply does_frz0 28); exact rfl; exact rfl; exact does_slice_m (l := 0) (h := s.length) (tyOk rfl) rfl (tyOk rfl) rfl rfl rfl ⟨_, _, rfl, rfl⟩ (by omega) hge ht2)) | ((with_reducible apply does_call_flat); exact rfl; exact rfl; exact (op); exact rfl) | ((with_reducible apply does_call'); exact rfl; exact rfl; exact rfl; exact (op)) | ((with_reducible apply does_call_flat); exact rfl; exact rfl; exact (c1); exact rfl) | ((with_reducible apply does_call'); exact rfl; exact rfl; exact rfl; exact (c1)) | ((with_reducible apply does_call_flat); exact rfl; exact rfl; exact (c2); exact rfl) | ((with_reducible apply does_call'); exact rfl; exact rfl; exact rfl; exact (c2)) | ((with_reducible apply does_move); (conv => lhs; whnf)) | ((with_reducible apply does_assign); (conv => lhs; whnf)) | ((with_reducible apply does_fieldAddr); exact tyOk rfl; exact rfl; exact rfl; decide; exact rfl) | ((with_reducible apply does_load_var); exact tyOk rfl; exact rfl; exact rfl; exact rfl; exact rfl) | ((with_reducible apply does_extract); exact rfl; exact rfl) | ((with_reducible apply does_len_map); exact tyOk rfl; exact rfl; exact rfl) | ((with_reducible apply does_len_sl); exact tyOk rfl; exact rfl; exact rfl) | ((with_reducible apply does_len_ow); exact tyOk rfl; exact rfl; exact rfl) | ((with_reducible apply does_slice); exact tyOk rfl; exact rfl; exact tyOk rfl; exact rfl; exact rfl; (first | exact rfl | exact ⟨_, _, rfl, rfl⟩); (first | exact rfl | exact ⟨_, _, rfl, rfl⟩); (first | omega | (dsimp only; omega) | (dsimp only; simp only [List.length_map, List.length_append, List.length_cons, List.length_nil] at *; omega) | (simp only [List.length_map, List.length_append, List.length_cons, List.length_nil] at *; omega) | (simp; omega)); (first | omega | (dsimp only; omega) | (dsimp only; simp only [List.length_map, List.length_append, List.length_cons, List.length_nil] at *; omega) | (simp only [List.length_map, List.length_append, List.length_cons, List.length_nil] at *; omega) | (simp; omega))) | ((with_reducible apply does_slice_str); exact tyOk rfl; exact rfl; exact rfl; (first | exact rfl | exact ⟨_, _, rfl, rfl⟩); (first | exact rfl | exact ⟨_, _, rfl, rfl⟩); (first | omega | (dsimp only; omega) | (dsimp only; simp only [List.length_map, List.length_append, List.length_cons, List.length_nil] at *; omega) | (simp only [List.length_map, List.length_append, List.length_cons, List.length_nil] at *; omega) | (simp; omega)); (first | omega | (dsimp only; omega) | (dsimp only; simp only [List.length_map, List.length_append, List.length_cons, List.length_nil] at *; omega) | (simp only [List.length_map, List.length_append, List.length_cons, List.length_nil] at *; omega) | (simp; omega))) | ((with_reducible apply does_slice_nl); exact tyOk rfl; exact rfl; exact tyOk rfl; exact rfl; (first | exact rfl | exact ⟨_, _, rfl, rfl⟩); (first | exact rfl | exact ⟨_, _, rfl, rfl⟩))) | ((first | (with_reducible apply rp1) | (with_reducible apply dr1)); first | (exact (by (with_reducible apply does_frz0 28); exact rfl; exact rfl; exact does_slice_m (l := 0) (h := s.length) (tyOk rfl) rfl (tyOk rfl) rfl rfl rfl ⟨_, _, rfl, rfl⟩ (by omega) hge ht2)) | ((with_reducible apply does_call1); exact rfl; exact rfl; exact rfl; exact (op)) | ((with_reducible apply does_call1); exact rfl; exact rfl; exact rfl; exact (c1)) | ((with_reducible apply does_call1); exact rfl; exact rfl; exact rfl; exact (c2)) | ((with_reducible apply does_alloc); exact tyOk rfl; exact rfl) | ((with_reducible apply does_buildSlice); exact tyOk rfl; exact rfl; exact tyOk rfl; exact rfl; exact rfl; (focus repeat' (first | exact trivial | refine And.intro rfl (And.intro rfl ?_))); decide; decide; exact rfl) | ((with_reducible apply does_append_nil); exact tyOk rfl; exact rfl; exact tyOk rfl; exact rfl; exact rfl; decide; (first | omega | (dsimp only; omega) | (dsimp only; simp only [List.length_map, List.length_append, List.length_cons, List.length_nil] at *; omega) | (simp only [List.length_map, List.length_append, List.length_cons, List.length_nil] at *; omega) | (simp; omega)); (first | omega | (dsimp only; omega) | (dsimp only; simp only [List.length_map, List.length_append, List.length_cons, List.length_nil] at *; omega) | (simp only [List.length_map, List.length_append, List.length_cons, List.length_nil] at *; omega) | (simp; omega)); exact rfl)) | ((first | (with_reducible apply rp2) | (with_reducible apply dr2)); first | (exact (by (with_reducible apply does_frz0 28); exact rfl; exact rfl; exact does_slice_m (l := 0) (h := s.length) (tyOk rfl) rfl (tyOk rfl) rfl rfl rfl ⟨_, _, rfl, rfl⟩ (by omega) hge ht2)) | ((with_reducible apply does_append_own); exact tyOk rfl; exact rfl; exact tyOk rfl; exact rfl; exact rfl; exact rfl; decide; (first | omega | (dsimp only; omega) | (dsimp only; simp only [List.length_map, List.length_append, List.length_cons, List.length_nil] at *; omega) | (simp only [List.length_map, List.length_append, List.length_cons, List.length_nil] at *; omega) | (simp; omega)); (first | omega | (dsimp only; omega) | (dsimp only; simp only [List.length_map, List.length_append, List.length_cons, List.length_nil] at *; omega) | (simp only [List.length_map, List.length_append, List.length_cons, List.length_nil] at *; omega) | (simp; omega)); exact rfl)) | ((first | (with_reducible apply rpN) | (with_reducible apply drN)); first | (exact (by (with_reducible apply does_frz0 28); exact rfl; exact rfl; exact does_slice_m (l := 0) (h := s.length) (tyOk rfl) rfl (tyOk rfl) rfl rfl rfl ⟨_, _, rfl, rfl⟩ (by omega) hge ht2)) | ((with_reducible apply does_store); exact tyOk rfl; exact rfl; exact rfl; (conv => lhs; whnf); exact rfl; exact rfl; (first | exact Nat.le_of_ble_eq_true rfl | omega | (simp; omega))) | ((with_reducible apply does_store_whole); exact tyOk rfl; exact rfl; exact rfl; exact rfl; exact rfl; exact rfl)))
      refine aw_loop (fun n s1 => ∃ k, k ≤ (R ++ R2).length ∧ n = (R ++ R2).length - k ∧
        s1 = ⟨[(10, .px 10 0), (11, .d (iD 0)), (12, .px 12 0), (13, .d (iD 0)), (53, .ow 53 (R ++ R2).length), (54, .d (iD (R ++ R2).length)), (55, .d (iD k))], [(10, .var 51 [.d (slotsD C), .d (byL R)]), (12, .var 51 [.d (slotsD C2), .d (byL R2)]), (53, .row 31 1 ((R ++ R2).map fun p => [byD p]))]⟩) _ _ ?_ ⟨0, by omega, rfl, rfl⟩ ?_
      · refine forget_of [] (by repeat' (first | exact ks_nil | (refine ks_cons rfl (by first | exact SubA.refl _ | exact SubA.d (SubD.nil _) | exact subA_ow (by first | rfl | (simp; done) | (simp; omega)) | exact subA_i (by first | rfl | (simp; done) | (simp; omega) | omega) | (refine SubA.of_eq ?_; first | rfl | (simp; done) | (simp; omega))) ?_))) ?_ rfl (by repeat' (first | exact trivial | exact insB_map _ | exact inB_ow rfl | exact inB_px rfl | exact inB_pr rfl | refine And.intro ?_ ?_)) (by repeat' (first | exact trivial | exact insB_map _ | exact inB_ow rfl | exact inB_px rfl | exact inB_pr rfl | refine And.intro ?_ ?_))
        refine kb_cons rfl rfl (kb_cons rfl rfl (kb_cons rfl (row_eq ?_) kb_nil))
        rw [List.map_append]; rfl
      · rintro n1 s1 ⟨k, hk, rfl, rfl⟩
        have h32 : ∀ d ∈ R ++ R2, d.length = 32 := fun d hd => by
          rcases List.mem_append.1 hd with h | h
          · exact r32 d h
          · exact r322 d h
        have hRR : (R ++ R2).length ≤ 32 := by rw [List.length_append]; omega
        generalize R ++ R2 = RR at *
        repeat (first | (with_reducible apply aw_seq) | (with_reducible apply aw_reg) | (with_reducible apply rp_nil) | (with_reducible apply ae_norm) | ((with_reducible apply be_other); exact rfl) | ((with_reducible apply dr_nil); first | kernel_rfl | exact rfl) | ((first | (with_reducible apply rp) | (with_reducible apply dr)); first | ((with_reducible apply does_lt); exact rfl; exact rfl)))
        refine aw_cond rfl (fun hd => ?_) (fun hd => ?_)
        · have hlt : k < RR.length := by simp at hd; omega
          clear hd
          obtain ⟨d, hd⟩ : ∃ d, RR[k]? = some d := ⟨_, List.getElem?_eq_getElem hlt⟩
          have hg : (RR.map fun p => [byD p])[k]? = some [byD d] := by rw [List.getElem?_map, hd]; rfl
          have hz : ((d.length : Int) != 32) = false := by rw [h32 d (List.mem_of_getElem? hd)]; rfl
          have hRm : (RR.map fun p => [byD p]).length = RR.length := by simp
          clear hd
          repeat (first | (with_reducible apply aw_seq) | (with_reducible apply aw_reg) | (with_reducible apply rp_nil) | (with_reducible apply ae_norm) | (with_reducible apply aw_block) | (with_reducible apply aw_skip) | ((with_reducible apply be_other); exact rfl) | ((with_reducible apply dr_nil); first | kernel_rfl | exact rfl) | ((first | (with_reducible apply rp) | (with_reducible apply dr)); first | ((with_reducible apply does_move); (conv => lhs; whnf)) | ((with_reducible apply does_assign); (conv => lhs; whnf)) | ((with_reducible apply does_load_var); exact tyOk rfl; exact rfl; exact rfl; exact rfl; exact rfl) | ((with_reducible apply does_load_elem); exact tyOk rfl; exact rfl; exact rfl; (first | assumption | exact map_get (by assumption) | exact rfl); exact rfl) | ((with_reducible apply does_load_own); exact tyOk rfl; exact rfl; exact rfl; exact rfl; (first | assumption | exact map_get (by assumption) | exact rfl); exact rfl) | ((with_reducible apply does_index_sl); exact tyOk rfl; exact rfl; exact tyOk rfl; exact rfl; exact rfl; exact rfl; exact rfl; (first | omega | (dsimp only; omega) | (dsimp only; simp only [List.length_map, List.length_append, List.length_cons, List.length_nil] at *; omega) | (simp only [List.length_map, List.length_append, List.length_cons, List.length_nil] at *; omega) | (simp; omega))) | ((with_reducible apply does_index_own); exact tyOk rfl; exact rfl; exact tyOk rfl; exact rfl; exact rfl; exact rfl; (first | omega | (dsimp only; omega) | (dsimp only; simp only [List.length_map, List.length_append, List.length_cons, List.length_nil] at *; omega) | (simp only [List.length_map, List.length_append, List.length_cons, List.length_nil] at *; omega) | (simp; omega))) | ((with_reducible apply does_ne); exact rfl; exact rfl) | ((with_reducible apply does_len_map); exact tyOk rfl; exact rfl; exact rfl)))
          refine aw_cond rfl (fun hd => absurd (hz.symm.trans hd) (by decide)) (fun _ => ?_)
          repeat (first | (with_reducible apply aw_reg) | (with_reducible apply rp_nil) | (with_reducible apply ae_norm) | (with_reducible apply be_norm) | (with_reducible apply aw_skip) | ((with_reducible apply be_other); exact rfl) | ((with_reducible apply dr_nil); first | kernel_rfl | exact rfl) | ((first | (with_reducible apply rp) | (with_reducible apply dr)); first | ((with_reducible apply does_move); (conv => lhs; whnf)) | ((with_reducible apply does_add); exact rfl; exact rfl; omega; omega)))
          refine ⟨_, _, ?_, ?_, k + 1, by omega, rfl, rfl⟩
          · omega
          · refine forget_of [] (by repeat' (first | exact ks_nil | (refine ks_cons rfl (by first | exact SubA.refl _ | exact SubA.d (SubD.nil _) | exact subA_ow (by first | rfl | (simp; done) | (simp; omega)) | exact subA_i (by first | rfl | (simp; done) | (simp; omega) | omega) | (refine SubA.of_eq ?_; first | rfl | (simp; done) | (simp; omega))) ?_))) (by repeat' (first | exact trivial | exact rfl | exact kb_d rfl | refine And.intro ?_ ?_)) rfl (by repeat' (first | exact trivial | exact insB_map _ | exact inB_ow rfl | exact inB_px rfl | exact inB_pr rfl | refine And.intro ?_ ?_)) (by repeat' (first | exact trivial | exact insB_map _ | exact inB_ow rfl | exact inB_px rfl | exact inB_pr rfl | refine And.intro ?_ ?_))
        · clear hd
          have hf : ((C.length : Int) == (C2.length : Int) && (R.length : Int) == (R2.length : Int) && decide ((C.length : Int) + (R.length : Int) > 0)) = true := by
            rw [cl, cl2, rl, rl2]; simp; omega
          repeat (first | (with_reducible apply aw_seq) | (with_reducible apply aw_reg) | (with_reducible apply rp_nil) | (with_reducible apply ae_norm) | (with_reducible apply aw_exit) | (with_reducible apply ae_exit) | (with_reducible apply be_exit) | (with_reducible apply aw_ret) | (with_reducible apply re_ret) | ((with_reducible apply be_other); exact rfl) | ((with_reducible apply dr_nil); first | kernel_rfl | exact rfl) | ((first | (with_reducible apply rp) | (with_reducible apply dr) | ((first | (with_reducible apply rpG) | (with_reducible apply drG)); exact rfl; (first | exact gval_t rfl | exact gval_f rfl | exact gval_gt rfl | exact gval_gf rfl); (focus repeat' (first | exact trivial | exact fun h => h | refine And.intro ?_ ?_ | (intro h; first | exact h | (simp only [Bool.and_eq_true] at h; first | exact h.1 | exact h.1.1 | exact h.1.1.1 | exact h.2) | simp_all))); intro hgd; (try simp only [decide_eq_true_eq, Bool.and_eq_true, Bool.not_eq_true', beq_iff_eq] at hgd))); first | ((with_reducible apply does_move); (conv => lhs; whnf)) | ((with_reducible apply does_assign); (conv => lhs; whnf)) | ((with_reducible apply does_and); exact rfl; exact rfl; exact rfl; (first | exact trivial | exact fun h => h | (intro h; first | exact h | (simp only [Bool.and_eq_true] at h; first | exact h.1 | exact h.1.1 | exact h.1.1.1 | exact h.2) | simp_all))) | ((with_reducible apply does_fieldAddr); exact tyOk rfl; exact rfl; exact rfl; decide; exact rfl) | ((with_reducible apply does_load_var); exact tyOk rfl; exact rfl; exact rfl; exact rfl; exact rfl) | ((with_reducible apply does_eq); exact rfl; exact rfl) | ((with_reducible apply does_gt); exact rfl; exact rfl) | ((with_reducible apply does_add); exact rfl; exact rfl; omega; omega) | ((with_reducible apply does_len_map); exact tyOk rfl; exact rfl; exact rfl)))
          (with_reducible apply ret_ok); (focus (repeat' (first | (with_reducible apply rv_nil) | (with_reducible apply rv_cons) | ((with_reducible apply rv_tmp); exact rfl) | ((with_reducible apply rv_cell); exact rfl; exact rfl; exact tyOk rfl; exact rfl; exact rfl) | ((with_reducible apply rv_rowd); exact rfl; exact rfl; exact tyOk rfl; exact rfl; (first | (with_reducible assumption) | exact rfl | ((try simp only [List.length_map]); first | assumption | omega) | (simp; omega))) | ((with_reducible apply rv_row); exact rfl; exact rfl; exact tyOk rfl; exact rfl; (first | exact Nat.le_of_ble_eq_true rfl | omega | (simp; omega)))))); (first | exact rfl | (focus repeat' (first | exact frzVs_one (frzV_map _ _) | exact rfl | (apply frzVs_cons; (first | exact frzV_map _ _ | exact rfl))))); refine SubD.of_eq ?_
          simp only [Bool.and_eq_true] at hf
          obtain ⟨⟨f1, f2⟩, f3⟩ := hf
          show bD ((0 : Int) == 0 && (0 : Int) == 0 && ((C.length : Int) == (C2.length : Int)) && ((R.length : Int) == (R2.length : Int)) && decide ((C.length : Int) + (R.length : Int) > 0)) = bD true
          rw [f1, f2, f3]
          rfl
theorem coverShape_walk (A : Option Addr) (l : List Raw) (c : Nat) (A2 : Option Addr) (l2 : List Raw) (c2 : Nat) (a : Int) (w : World) (h : RdR w w.heap.size A l) (hc : l.length ≤ c) (_ : c * 40 ≤ 140737488351232) (_ : ∀ r ∈ l, r.ok) (h2 : RdR w w.heap.size A2 l2) (hc2 : l2.length ≤ c2) (_ : c2 * 40 ≤ 140737488351232) (_ : ∀ r ∈ l2, r.ok) (ha : I64 a) (hg : GlOk (Lt w) w) : Calls Tryd.prog 5 #[.slice A l.length c, .slice A2 l2.length c2, .int .i64 a] w fun e w' => e = .returned (.bool true) ∧ Below w.heap.size w w' :=
  calls_of_pc (coverShape_pc l l2 a) (rep_cons (rep_raws h hc) (rep_cons (rep_raws h2 hc2) (rep_cons (rep_int w a) rfl))) hg
end Go.Proofs.YtagbajdjpfafoaaDoor
