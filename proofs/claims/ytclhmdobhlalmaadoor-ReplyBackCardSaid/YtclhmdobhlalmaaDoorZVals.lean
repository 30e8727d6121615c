/-
  chirographkeep.some, vals: values that may be. No condition.
-/
import Derived.Test.YtclhmdobhlalmaaDoorZReal
namespace Go.Proofs.YtclhmdobhlalmaaDoor
set_option linter.unusedSimpArgs false
set_option linter.unusedVariables false
open Go.RowKit

abbrev rawsD (l : List Raw) : D := .sl 4 (l.map Raw.cs)
abbrev valsD (l : List Vl) : D := .sl 4 (l.map Vl.cs)
theorem take_min {α : Type} (l : List α) (m : Nat) : l.take (min l.length m) = l.take m := by
  rcases Nat.le_total l.length m with h | h
  · rw [Nat.min_eq_left h, List.take_of_length_le (Nat.le_refl _), List.take_of_length_le h]
  · rw [Nat.min_eq_right h]
theorem some_pc (l : List Raw) (m : Nat) : PC Tryd.prog 38 [rawsD l, iD m] (rawsD (l.take m)) := by
  refine pc_of_aw Tryd.func38 rfl (by kernel_rfl) mixed (by kernel_rfl) (by rw [Tryd.ntmps38]; exact Nat.le_of_ble_eq_true rfl) Tryd.results38 ?_
  repeat (first | (with_reducible apply aw_seq) | (with_reducible apply aw_reg) | (with_reducible apply rp_nil) | (with_reducible apply ae_norm) | (with_reducible apply aw_ret) | (with_reducible apply re_ret) | ((with_reducible apply be_other); exact rfl) | ((with_reducible apply dr_nil); first | kernel_rfl | exact rfl) | ((first | (with_reducible apply rp) | (with_reducible apply dr)); first | (exact does_min_nat (a := l.length) (b := m) rfl rfl (by simp) rfl) | ((with_reducible apply does_move); (conv => lhs; whnf)) | ((with_reducible apply does_assign); (conv => lhs; whnf)) | ((with_reducible apply does_len_map); exact tyOk rfl; exact rfl; exact rfl) | ((with_reducible apply does_slice); exact tyOk rfl; exact rfl; exact tyOk rfl; exact rfl; exact rfl; (first | exact rfl | exact ⟨_, _, rfl, rfl⟩); (first | exact rfl | exact ⟨_, _, rfl, rfl⟩); (first | omega | (dsimp only; omega) | (dsimp only; simp only [List.length_map, List.length_append, List.length_cons, List.length_nil] at *; omega) | (simp only [List.length_map, List.length_append, List.length_cons, List.length_nil] at *; omega) | (simp; omega)); (first | omega | (dsimp only; omega) | (dsimp only; simp only [List.length_map, List.length_append, List.length_cons, List.length_nil] at *; omega) | (simp only [List.length_map, List.length_append, List.length_cons, List.length_nil] at *; omega) | (simp; omega)))) | ((first | (with_reducible apply rp1) | (with_reducible apply dr1)); first | (exact does_min_nat (a := l.length) (b := m) rfl rfl (by simp) rfl)) | ((first | (with_reducible apply rp2) | (with_reducible apply dr2)); first | (exact does_min_nat (a := l.length) (b := m) rfl rfl (by simp) rfl)) | ((first | (with_reducible apply rpN) | (with_reducible apply drN)); first | (exact does_min_nat (a := l.length) (b := m) rfl rfl (by simp) rfl)))
  (with_reducible apply ret_ok); (focus (repeat' (first | (with_reducible apply rv_nil) | (with_reducible apply rv_cons) | ((with_reducible apply rv_tmp); exact rfl) | ((with_reducible apply rv_cell); exact rfl; exact rfl; exact tyOk rfl; exact rfl; exact rfl) | ((with_reducible apply rv_rowd); exact rfl; exact rfl; exact tyOk rfl; exact rfl; (first | (with_reducible assumption) | exact rfl | ((try simp only [List.length_map]); first | assumption | omega) | (simp; omega))) | ((with_reducible apply rv_row); exact rfl; exact rfl; exact tyOk rfl; exact rfl; (first | exact Nat.le_of_ble_eq_true rfl | omega | (simp; omega)))))); (first | exact rfl | (focus repeat' (first | exact frzVs_one (frzV_map _ _) | exact rfl | (apply frzVs_cons; (first | exact frzV_map _ _ | exact rfl))))); refine SubD.of_eq ?_
  show D.sl 4 (List.drop 0 (List.take (min l.length m) (List.map Raw.cs l))) = D.sl 4 (List.map Raw.cs (List.take m l))
  rw [List.drop_zero, ← List.map_take, take_min]
noncomputable def valF (r : Raw) : Vl := Classical.choose (val_pc r)
theorem valF_gd (r : Raw) : Gd (valF r) := (Classical.choose_spec (val_pc r)).1
theorem valF_pc (r : Raw) : PC Tryd.prog 14 [.ag r.cs] (.ag (valF r).cs) := (Classical.choose_spec (val_pc r)).2
noncomputable def valsF (l : List Raw) : List Vl := (l.take 5).map valF
theorem valsF_len (l : List Raw) : (valsF l).length ≤ 5 := by
  unfold valsF
  rw [List.length_map, List.length_take]
  omega
theorem valsF_gd (l : List Raw) : ∀ v ∈ valsF l, Gd v := by
  intro v hv
  obtain ⟨r, _, rfl⟩ := List.mem_map.1 hv
  exact valF_gd r
set_option maxHeartbeats 1000000 in
theorem vals_pc (l0 : List Raw) : PC Tryd.prog 21 [rawsD l0] (valsD (valsF l0)) := by
  have s1 := some_pc l0 5
  unfold valsF
  have hl : (l0.take 5).length ≤ 5 := by rw [List.length_take]; omega
  generalize l0.take 5 = l at *
  refine pc_of_aw Tryd.func21 rfl (by kernel_rfl) mixed (by kernel_rfl) (by rw [Tryd.ntmps21]; exact Nat.le_of_ble_eq_true rfl) Tryd.results21 ?_
  repeat (first | (with_reducible apply aw_seq) | (with_reducible apply aw_reg) | (with_reducible apply rp_nil) | (with_reducible apply ae_norm) | (with_reducible apply aw_block) | ((with_reducible apply be_other); exact rfl) | ((with_reducible apply dr_nil); first | kernel_rfl | exact rfl) | ((first | (with_reducible apply rp) | (with_reducible apply dr)); first | ((with_reducible apply does_call_flat); exact rfl; exact rfl; exact (s1); exact rfl) | ((with_reducible apply does_call'); exact rfl; exact rfl; exact rfl; exact (s1)) | ((with_reducible apply does_move); (conv => lhs; whnf)) | ((with_reducible apply does_assign); (conv => lhs; whnf)) | ((with_reducible apply does_len_map); exact tyOk rfl; exact rfl; exact rfl)) | ((first | (with_reducible apply rp1) | (with_reducible apply dr1)); first | ((with_reducible apply does_call1); exact rfl; exact rfl; exact rfl; exact (s1))))
  refine aw_loop (fun n s => ∃ k, k ≤ l.length ∧ n = l.length - k ∧ s = ⟨[(3, .ow 1000 k), (7, .d (rawsD l)), (8, .d (iD l.length)), (9, .d (iD k))], [(1000, .row 26 4 (((l.take k).map valF).map Vl.cs))]⟩) _ _ ?_ ⟨0, by omega, rfl, rfl⟩ ?_
  · refine Ent.trans (ent_nil 3 1000 26 4 rfl rfl) ?_
    refine forget_of [] (by repeat' (first | exact ks_nil | (refine ks_cons rfl (by first | exact SubA.refl _ | exact SubA.d (SubD.nil _) | exact subA_ow (by first | rfl | (simp; done) | (simp; omega)) | exact subA_i (by first | rfl | (simp; done) | (simp; omega) | omega) | (refine SubA.of_eq ?_; first | rfl | (simp; done) | (simp; omega))) ?_))) (by repeat' (first | exact trivial | exact rfl | exact kb_d rfl | refine And.intro ?_ ?_)) rfl (by repeat' (first | exact trivial | exact insB_map _ | exact inB_ow rfl | exact inB_px rfl | exact inB_pr rfl | refine And.intro ?_ ?_)) (by repeat' (first | exact trivial | exact insB_map _ | exact inB_ow rfl | exact inB_px rfl | exact inB_pr rfl | refine And.intro ?_ ?_))
  · rintro n s ⟨k, hk, rfl, rfl⟩
    repeat (first | (with_reducible apply aw_seq) | (with_reducible apply aw_reg) | (with_reducible apply rp_nil) | (with_reducible apply ae_norm) | ((with_reducible apply be_other); exact rfl) | ((with_reducible apply dr_nil); first | kernel_rfl | exact rfl) | ((first | (with_reducible apply rp) | (with_reducible apply dr)); first | ((with_reducible apply does_lt); exact rfl; exact rfl)))
    refine aw_cond rfl (fun hd => ?_) (fun hd => ?_)
    · have hlt : k < l.length := by simp at hd; omega
      clear hd
      obtain ⟨r, hr⟩ : ∃ r, l[k]? = some r := ⟨_, List.getElem?_eq_getElem hlt⟩
      have hr2 : (l.map Raw.cs)[k]? = some r.cs := by rw [List.getElem?_map, hr]; rfl
      have v1 := valF_pc r
      have e1 : ((l.take (k + 1)).map valF).map Vl.cs = ((l.take k).map valF).map Vl.cs ++ [(valF r).cs] := by rw [List.take_add_one, hr]; simp
      have l1 : (((l.take k).map valF).map Vl.cs).length = k := by simp; omega
      generalize ((l.take k).map valF).map Vl.cs = o at *
      generalize valF r = v at *
      obtain ⟨vk, vn, vb, vt⟩ := v
      obtain ⟨rk, ra, rb, rt⟩ := r
      unfold Vl.cs Raw.cs at *
      dsimp only at *
      repeat (first | (with_reducible apply aw_seq) | (with_reducible apply aw_reg) | (with_reducible apply rp_nil) | (with_reducible apply ae_norm) | (with_reducible apply aw_block) | (with_reducible apply be_norm) | (with_reducible apply aw_skip) | ((with_reducible apply be_other); exact rfl) | ((with_reducible apply dr_nil); first | kernel_rfl | exact rfl) | ((first | (with_reducible apply rp) | (with_reducible apply dr)); first | ((with_reducible apply does_call_flat); exact rfl; exact rfl; exact (v1); exact rfl) | ((with_reducible apply does_call'); exact rfl; exact rfl; exact rfl; exact (v1)) | ((with_reducible apply does_move); (conv => lhs; whnf)) | ((with_reducible apply does_assign); (conv => lhs; whnf)) | ((with_reducible apply does_load_var); exact tyOk rfl; exact rfl; exact rfl; exact rfl; exact rfl) | ((with_reducible apply does_load_elem); exact tyOk rfl; exact rfl; exact rfl; (first | assumption | exact map_get (by assumption) | exact rfl); exact rfl) | ((with_reducible apply does_load_own); exact tyOk rfl; exact rfl; exact rfl; exact rfl; (first | assumption | exact map_get (by assumption) | exact rfl); exact rfl) | ((with_reducible apply does_load_row); exact tyOk rfl; exact rfl; exact rfl; exact rfl; (first | exact Nat.le_of_ble_eq_true rfl | omega | (simp; omega)); exact rfl) | ((with_reducible apply does_load_elem_whole); exact tyOk rfl; exact rfl; exact rfl; (first | assumption | exact map_get (by assumption) | exact rfl); exact rfl) | ((with_reducible apply does_index_sl); exact tyOk rfl; exact rfl; exact tyOk rfl; exact rfl; exact rfl; exact rfl; exact rfl; (first | omega | (dsimp only; omega) | (dsimp only; simp only [List.length_map, List.length_append, List.length_cons, List.length_nil] at *; omega) | (simp only [List.length_map, List.length_append, List.length_cons, List.length_nil] at *; omega) | (simp; omega))) | ((with_reducible apply does_add); exact rfl; exact rfl; omega; omega)) | ((first | (with_reducible apply rp1) | (with_reducible apply dr1)); first | ((with_reducible apply does_call1); exact rfl; exact rfl; exact rfl; exact (v1)) | ((with_reducible apply does_alloc); exact tyOk rfl; exact rfl) | ((with_reducible apply does_buildSlice); exact tyOk rfl; exact rfl; exact tyOk rfl; exact rfl; exact rfl; (focus repeat' (first | exact trivial | refine And.intro rfl (And.intro rfl ?_))); decide; decide; exact rfl) | ((with_reducible apply does_append_nil); exact tyOk rfl; exact rfl; exact tyOk rfl; exact rfl; exact rfl; decide; (first | omega | (dsimp only; omega) | (dsimp only; simp only [List.length_map, List.length_append, List.length_cons, List.length_nil] at *; omega) | (simp only [List.length_map, List.length_append, List.length_cons, List.length_nil] at *; omega) | (simp; omega)); (first | omega | (dsimp only; omega) | (dsimp only; simp only [List.length_map, List.length_append, List.length_cons, List.length_nil] at *; omega) | (simp only [List.length_map, List.length_append, List.length_cons, List.length_nil] at *; omega) | (simp; omega)); exact rfl)) | ((first | (with_reducible apply rp2) | (with_reducible apply dr2)); first | ((with_reducible apply does_append_own); exact tyOk rfl; exact rfl; exact tyOk rfl; exact rfl; exact rfl; exact rfl; decide; (first | omega | (dsimp only; omega) | (dsimp only; simp only [List.length_map, List.length_append, List.length_cons, List.length_nil] at *; omega) | (simp only [List.length_map, List.length_append, List.length_cons, List.length_nil] at *; omega) | (simp; omega)); (first | omega | (dsimp only; omega) | (dsimp only; simp only [List.length_map, List.length_append, List.length_cons, List.length_nil] at *; omega) | (simp only [List.length_map, List.length_append, List.length_cons, List.length_nil] at *; omega) | (simp; omega)); exact rfl)) | ((first | (with_reducible apply rpN) | (with_reducible apply drN)); first | ((with_reducible apply does_store); exact tyOk rfl; exact rfl; exact rfl; (conv => lhs; whnf); exact rfl; exact rfl; (first | exact Nat.le_of_ble_eq_true rfl | omega | (simp; omega))) | ((with_reducible apply does_store_whole); exact tyOk rfl; exact rfl; exact rfl; exact rfl; exact rfl; exact rfl)))
      refine ⟨_, _, ?_, ?_, k + 1, by omega, rfl, rfl⟩
      · omega
      · rw [e1]
        refine forget_of [(1000, 17)] (by repeat' (first | exact ks_nil | (refine ks_cons rfl (by first | exact SubA.refl _ | exact SubA.d (SubD.nil _) | exact subA_ow (by first | rfl | (simp; done) | (simp; omega)) | exact subA_i (by first | rfl | (simp; done) | (simp; omega) | omega) | (refine SubA.of_eq ?_; first | rfl | (simp; done) | (simp; omega))) ?_))) ?_ rfl (by repeat' (first | exact trivial | exact insB_map _ | exact inB_ow rfl | exact inB_px rfl | exact inB_pr rfl | refine And.intro ?_ ?_)) (by repeat' (first | exact trivial | exact insB_map _ | exact inB_ow rfl | exact inB_px rfl | exact inB_pr rfl | refine And.intro ?_ ?_))
        exact kb_cons rfl (row_eq rfl) kb_nil
    · have hke : k = l.length := by simp at hd; omega
      clear hd
      subst hke
      repeat (first | (with_reducible apply aw_seq) | (with_reducible apply aw_reg) | (with_reducible apply rp_nil) | (with_reducible apply ae_norm) | (with_reducible apply aw_exit) | (with_reducible apply ae_exit) | (with_reducible apply be_exit) | (with_reducible apply aw_ret) | (with_reducible apply re_ret) | ((with_reducible apply be_other); exact rfl) | ((with_reducible apply dr_nil); first | kernel_rfl | exact rfl) | ((first | (with_reducible apply rp) | (with_reducible apply dr)); first | ((with_reducible apply does_move); (conv => lhs; whnf)) | ((with_reducible apply does_assign); (conv => lhs; whnf))))
      (with_reducible apply ret_ok); (focus (repeat' (first | (with_reducible apply rv_nil) | (with_reducible apply rv_cons) | ((with_reducible apply rv_tmp); exact rfl) | ((with_reducible apply rv_cell); exact rfl; exact rfl; exact tyOk rfl; exact rfl; exact rfl) | ((with_reducible apply rv_rowd); exact rfl; exact rfl; exact tyOk rfl; exact rfl; (first | (with_reducible assumption) | exact rfl | ((try simp only [List.length_map]); first | assumption | omega) | (simp; omega))) | ((with_reducible apply rv_row); exact rfl; exact rfl; exact tyOk rfl; exact rfl; (first | exact Nat.le_of_ble_eq_true rfl | omega | (simp; omega)))))); (first | exact rfl | (focus repeat' (first | exact frzVs_one (frzV_map _ _) | exact rfl | (apply frzVs_cons; (first | exact frzV_map _ _ | exact rfl))))); refine SubD.of_eq ?_
      rw [List.take_length]
      rfl
end Go.Proofs.YtclhmdobhlalmaaDoor
