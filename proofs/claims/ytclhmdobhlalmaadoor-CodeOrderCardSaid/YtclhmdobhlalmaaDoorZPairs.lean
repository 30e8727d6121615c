/-
  chirographkeep.pairOf: rows of as many values, the same in their first ones. No condition.
-/
import Derived.Test.YtclhmdobhlalmaaDoorZVal2
import Derived.Test.YtclhmdobhlalmaaDoorZPlCut
import Derived.Test.YtclhmdobhlalmaaDoorZC
import Derived.Test.YtclhmdobhlalmaaDoorZPick
namespace Go.Proofs.YtclhmdobhlalmaaDoor
set_option linter.unusedSimpArgs false
set_option linter.unusedVariables false
open Go.RowKit

theorem does_min_n {P : Program} {dst : Option Nat} {ty : TypeId} {e : Operand → A} {β : Bx} {x y : Operand} {ts : Array TypeId} {a b n : Nat} {p q : Int} (h : min a b = n) (hx : e x = .d (iD p)) (hy : e y = .d (iD q)) (hp : p = a) (hq : q = b) : Does P dst (.call { callee := .builtin .min, args := #[x, y], argTypes := ts }) ty e β (.d (iD n)) [] [] := by
  subst h
  exact does_min_nat hx hy hp hq
set_option maxHeartbeats 1000000 in
theorem pairOf_pc (l0 m0 : List Raw) (alike : Int) (gi : (∀ v ∈ valsG l0, Gi v) ∧ ∀ v ∈ valsG m0, Gi v) : ∃ A B : List Vl, A.length ≤ 5 ∧ A.length = B.length ∧ (∀ v ∈ A, Gi v) ∧ (∀ v ∈ B, Gi v) ∧ PC Tryd.prog 26 [rawsD l0, rawsD m0, iD alike] (.tu [valsD A, valsD B]) := by
  have v1 : PC Tryd.prog 21 [rawsD l0] (valsD (valsG l0)) := (vals_pco l0).pc
  have v2 := vals_pco m0
  have hl := valsG_len l0
  have hm := valsG_len m0
  obtain ⟨hgl, hgm⟩ := gi
  generalize valsG l0 = l at *
  generalize valsG m0 = m at *
  obtain ⟨n, hn⟩ : ∃ n, min l.length m.length = n := ⟨_, rfl⟩
  have hnl : n ≤ l.length := by omega
  have hnm : n ≤ m.length := by omega
  obtain ⟨x, hx⟩ : ∃ x, l.take n = x := ⟨_, rfl⟩
  obtain ⟨y, hy⟩ : ∃ y, m.take n = y := ⟨_, rfl⟩
  have lx : x.length = n := by rw [← hx, List.length_take]; omega
  have ly : y.length = n := by rw [← hy, List.length_take]; omega
  have gx : ∀ v ∈ x, Gi v := fun v hv => hgl v (by rw [← hx] at hv; exact List.mem_of_mem_take hv)
  have gy : ∀ v ∈ y, Gi v := fun v hv => hgm v (by rw [← hy] at hv; exact List.mem_of_mem_take hv)
  have hx2 : (l.take n).drop 0 = x := by rw [List.drop_zero, hx]
  have hy2 : (m.map Vl.cs).take n = y.map Vl.cs := by rw [← List.map_take, hy]
  have lm : (m.map Vl.cs).length = m.length := List.length_map ..
  obtain ⟨u, hu, p1⟩ := picked_nat alike (n + 1) (by omega) (by omega)
  have hadd : (n : Int) + 1 = ((n + 1 : Nat) : Int) := by omega
  refine ⟨x, x.take u ++ y.drop u, by omega, by simp; omega, gx, fun v hv => ?_, ?_⟩
  · rcases List.mem_append.1 hv with h | h
    · exact gx v (List.mem_of_mem_take h)
    · exact gy v (List.mem_of_mem_drop h)
  clear gx gy hgl hgm hx hy
  refine pc_of_aw Tryd.func26 rfl (by kernel_rfl) mixed (by kernel_rfl) (by rw [Tryd.ntmps26]; exact Nat.le_of_ble_eq_true rfl) Tryd.results26 ?_
  repeat (first | (with_reducible apply aw_seq) | (with_reducible apply aw_reg) | (with_reducible apply rp_nil) | (with_reducible apply ae_norm) | (with_reducible apply aw_regD) | (with_reducible apply aw_block) | ((with_reducible apply be_other); exact rfl) | ((with_reducible apply dr_nil); first | kernel_rfl | exact rfl) | ((first | (with_reducible apply rp) | (with_reducible apply dr)); first | ((with_reducible apply does_call_flat); exact rfl; exact rfl; exact (v1); exact rfl) | ((with_reducible apply does_call'); exact rfl; exact rfl; exact rfl; exact (v1)) | (exact does_min_n (a := l.length) (b := m.length) hn rfl rfl (by simp) (by simp)) | (exact does_slice_m (l := 0) (h := n) (tyOk rfl) rfl (tyOk rfl) rfl rfl rfl ⟨_, _, rfl, rfl⟩ (by omega) (by omega) hx2) | (exact does_slice_own (h := n) (tyOk rfl) rfl (tyOk rfl) rfl rfl rfl ⟨_, _, rfl, rfl⟩ (by simp; omega) hy2 rfl) | (exact does_add_to rfl rfl hadd (by omega) (by omega)) | ((with_reducible apply does_call_flat); exact rfl; exact rfl; exact (p1); exact rfl) | ((with_reducible apply does_call'); exact rfl; exact rfl; exact rfl; exact (p1)) | ((with_reducible apply does_move); (conv => lhs; whnf)) | ((with_reducible apply does_assign); (conv => lhs; whnf)) | ((with_reducible apply does_len_map); exact tyOk rfl; exact rfl; exact rfl) | ((with_reducible apply does_len_sl); exact tyOk rfl; exact rfl; exact rfl) | ((with_reducible apply does_len_ow); exact tyOk rfl; exact rfl; exact rfl) | ((with_reducible apply does_slice); exact tyOk rfl; exact rfl; exact tyOk rfl; exact rfl; exact rfl; (first | exact rfl | exact ⟨_, _, rfl, rfl⟩); (first | exact rfl | exact ⟨_, _, rfl, rfl⟩); (first | omega | (dsimp only; omega) | (dsimp only; simp only [List.length_map, List.length_append, List.length_cons, List.length_nil] at *; omega) | (simp only [List.length_map, List.length_append, List.length_cons, List.length_nil] at *; omega) | (simp; omega)); (first | omega | (dsimp only; omega) | (dsimp only; simp only [List.length_map, List.length_append, List.length_cons, List.length_nil] at *; omega) | (simp only [List.length_map, List.length_append, List.length_cons, List.length_nil] at *; omega) | (simp; omega))) | ((with_reducible apply does_slice_str); exact tyOk rfl; exact rfl; exact rfl; (first | exact rfl | exact ⟨_, _, rfl, rfl⟩); (first | exact rfl | exact ⟨_, _, rfl, rfl⟩); (first | omega | (dsimp only; omega) | (dsimp only; simp only [List.length_map, List.length_append, List.length_cons, List.length_nil] at *; omega) | (simp only [List.length_map, List.length_append, List.length_cons, List.length_nil] at *; omega) | (simp; omega)); (first | omega | (dsimp only; omega) | (dsimp only; simp only [List.length_map, List.length_append, List.length_cons, List.length_nil] at *; omega) | (simp only [List.length_map, List.length_append, List.length_cons, List.length_nil] at *; omega) | (simp; omega))) | ((with_reducible apply does_slice_nl); exact tyOk rfl; exact rfl; exact tyOk rfl; exact rfl; (first | exact rfl | exact ⟨_, _, rfl, rfl⟩); (first | exact rfl | exact ⟨_, _, rfl, rfl⟩))) | ((first | (with_reducible apply rp1) | (with_reducible apply dr1)); first | ((with_reducible apply does_callO'); exact rfl; exact rfl; exact rfl; exact (v2); (first | exact rfl | (simp; done) | (simp; omega)); exact rfl; (conv => lhs; whnf)) | ((with_reducible apply does_call1); exact rfl; exact rfl; exact rfl; exact (v1)) | (exact does_min_n (a := l.length) (b := m.length) hn rfl rfl (by simp) (by simp)) | (exact does_slice_m (l := 0) (h := n) (tyOk rfl) rfl (tyOk rfl) rfl rfl rfl ⟨_, _, rfl, rfl⟩ (by omega) (by omega) hx2) | (exact does_slice_own (h := n) (tyOk rfl) rfl (tyOk rfl) rfl rfl rfl ⟨_, _, rfl, rfl⟩ (by simp; omega) hy2 rfl) | (exact does_add_to rfl rfl hadd (by omega) (by omega)) | ((with_reducible apply does_call1); exact rfl; exact rfl; exact rfl; exact (p1))) | ((first | (with_reducible apply rp2) | (with_reducible apply dr2)); first | ((with_reducible apply does_callO1); exact rfl; exact rfl; exact rfl; exact (v2); (first | exact rfl | (simp; done) | (simp; omega)); exact rfl; decide; (conv => lhs; whnf)) | (exact does_min_n (a := l.length) (b := m.length) hn rfl rfl (by simp) (by simp)) | (exact does_slice_m (l := 0) (h := n) (tyOk rfl) rfl (tyOk rfl) rfl rfl rfl ⟨_, _, rfl, rfl⟩ (by omega) (by omega) hx2) | (exact does_slice_own (h := n) (tyOk rfl) rfl (tyOk rfl) rfl rfl rfl ⟨_, _, rfl, rfl⟩ (by simp; omega) hy2 rfl) | (exact does_add_to rfl rfl hadd (by omega) (by omega))) | ((first | (with_reducible apply rpN) | (with_reducible apply drN)); first | (exact does_min_n (a := l.length) (b := m.length) hn rfl rfl (by simp) (by simp)) | (exact does_slice_m (l := 0) (h := n) (tyOk rfl) rfl (tyOk rfl) rfl rfl rfl ⟨_, _, rfl, rfl⟩ (by omega) (by omega) hx2) | (exact does_slice_own (h := n) (tyOk rfl) rfl (tyOk rfl) rfl rfl rfl ⟨_, _, rfl, rfl⟩ (by simp; omega) hy2 rfl) | (exact does_add_to rfl rfl hadd (by omega) (by omega))))
  refine aw_loop (fun t s => ∃ k, k ≤ u ∧ t = u - k ∧ s = ⟨[(8, .d (valsD x)), (9, .ow 26 n), (30, .d (iD u)), (31, .d (iD k))], [(26, .row 26 4 ((x.take k ++ y.drop k).map Vl.cs))]⟩) _ _ ?_ ⟨0, by omega, rfl, rfl⟩ ?_
  · refine forget_of [] (by repeat' (first | exact ks_nil | (refine ks_cons rfl (by first | exact SubA.refl _ | exact SubA.d (SubD.nil _) | exact subA_ow (by first | rfl | (simp; done) | (simp; omega)) | exact subA_i (by first | rfl | (simp; done) | (simp; omega) | omega) | (refine SubA.of_eq ?_; first | rfl | (simp; done) | (simp; omega))) ?_))) (by repeat' (first | exact trivial | exact rfl | exact kb_d rfl | refine And.intro ?_ ?_)) rfl (by repeat' (first | exact trivial | exact insB_map _ | exact inB_ow rfl | exact inB_px rfl | exact inB_pr rfl | refine And.intro ?_ ?_)) (by repeat' (first | exact trivial | exact insB_map _ | exact inB_ow rfl | exact inB_px rfl | exact inB_pr rfl | refine And.intro ?_ ?_))
  · rintro t s ⟨k, hk, rfl, rfl⟩
    repeat (first | (with_reducible apply aw_seq) | (with_reducible apply aw_reg) | (with_reducible apply rp_nil) | (with_reducible apply ae_norm) | ((with_reducible apply be_other); exact rfl) | ((with_reducible apply dr_nil); first | kernel_rfl | exact rfl) | ((first | (with_reducible apply rp) | (with_reducible apply dr)); first | ((with_reducible apply does_lt); exact rfl; exact rfl)))
    refine aw_cond rfl (fun hd => ?_) (fun hd => ?_)
    · have hlt : k < u := by simp at hd; omega
      clear hd
      obtain ⟨v, hv⟩ : ∃ v, x[k]? = some v := ⟨_, List.getElem?_eq_getElem (by omega)⟩
      obtain ⟨v2, hv2⟩ : ∃ v, y[k]? = some v := ⟨_, List.getElem?_eq_getElem (by omega)⟩
      have hv3 : (x.map Vl.cs)[k]? = some v.cs := by rw [List.getElem?_map, hv]; rfl
      have lk : (x.take k).length = k := by rw [List.length_take]; omega
      have ho : ((x.take k ++ y.drop k).map Vl.cs)[k]? = some v2.cs := by
        rw [List.getElem?_map, List.getElem?_append_right (by omega), lk, Nat.sub_self, List.getElem?_drop, Nat.add_zero, hv2]; rfl
      have e1 : (x.take (k + 1) ++ y.drop (k + 1)).map Vl.cs = ((x.take k ++ y.drop k).map Vl.cs).set k v.cs := by
        have hyd : y.drop k = v2 :: y.drop (k + 1) := by
          obtain ⟨hk2, hv2⟩ := List.getElem?_eq_some_iff.1 hv2
          rw [List.drop_eq_getElem_cons hk2, hv2]
        rw [← List.map_set, List.set_append_right _ _ (by omega), lk, Nat.sub_self, List.take_add_one, hv, hyd, List.set_cons_zero, List.append_assoc]
        rfl
      generalize (x.take k ++ y.drop k).map Vl.cs = o at *
      obtain ⟨vk, vn, vb, vt⟩ := v
      obtain ⟨wk, wn, wb, wt⟩ := v2
      unfold Vl.cs at *
      dsimp only at *
      repeat (first | (with_reducible apply aw_seq) | (with_reducible apply aw_reg) | (with_reducible apply rp_nil) | (with_reducible apply ae_norm) | (with_reducible apply aw_block) | (with_reducible apply be_norm) | (with_reducible apply aw_skip) | ((with_reducible apply be_other); exact rfl) | ((with_reducible apply dr_nil); first | kernel_rfl | exact rfl) | ((first | (with_reducible apply rp) | (with_reducible apply dr)); first | ((with_reducible apply does_move); (conv => lhs; whnf)) | ((with_reducible apply does_assign); (conv => lhs; whnf)) | ((with_reducible apply does_load_var); exact tyOk rfl; exact rfl; exact rfl; exact rfl; exact rfl) | ((with_reducible apply does_load_elem); exact tyOk rfl; exact rfl; exact rfl; (first | assumption | exact map_get (by assumption) | exact rfl); exact rfl) | ((with_reducible apply does_load_own); exact tyOk rfl; exact rfl; exact rfl; exact rfl; (first | assumption | exact map_get (by assumption) | exact rfl); exact rfl) | ((with_reducible apply does_load_row); exact tyOk rfl; exact rfl; exact rfl; exact rfl; (first | exact Nat.le_of_ble_eq_true rfl | omega | (simp; omega)); exact rfl) | ((with_reducible apply does_load_elem_whole); exact tyOk rfl; exact rfl; exact rfl; (first | assumption | exact map_get (by assumption) | exact rfl); exact rfl) | ((with_reducible apply does_index_sl); exact tyOk rfl; exact rfl; exact tyOk rfl; exact rfl; exact rfl; exact rfl; exact rfl; (first | omega | (dsimp only; omega) | (dsimp only; simp only [List.length_map, List.length_append, List.length_cons, List.length_nil] at *; omega) | (simp only [List.length_map, List.length_append, List.length_cons, List.length_nil] at *; omega) | (simp; omega))) | ((with_reducible apply does_index_own); exact tyOk rfl; exact rfl; exact tyOk rfl; exact rfl; exact rfl; exact rfl; (first | omega | (dsimp only; omega) | (dsimp only; simp only [List.length_map, List.length_append, List.length_cons, List.length_nil] at *; omega) | (simp only [List.length_map, List.length_append, List.length_cons, List.length_nil] at *; omega) | (simp; omega))) | ((with_reducible apply does_add); exact rfl; exact rfl; omega; omega)) | ((first | (with_reducible apply rpN) | (with_reducible apply drN)); first | ((with_reducible apply does_store); exact tyOk rfl; exact rfl; exact rfl; (conv => lhs; whnf); exact rfl; exact rfl; (first | exact Nat.le_of_ble_eq_true rfl | omega | (simp; omega))) | ((with_reducible apply does_store_whole); exact tyOk rfl; exact rfl; exact rfl; exact rfl; exact rfl; exact rfl) | ((with_reducible apply does_store_rowD); exact tyOk rfl; exact rfl; exact rfl; exact rfl; exact rfl; (first | exact Nat.le_of_ble_eq_true rfl | omega | (simp; omega))) | ((with_reducible apply does_store_wholeA); exact tyOk rfl; exact rfl; exact rfl; exact rfl; exact rfl; exact rfl) | ((with_reducible apply does_store_own); exact tyOk rfl; exact rfl; exact rfl; exact rfl; exact rfl; (first | assumption | exact map_get (by assumption) | exact rfl); exact rfl; (first | exact Nat.le_of_ble_eq_true rfl | omega | (simp; omega)))))
      refine ⟨_, _, ?_, ?_, k + 1, by omega, rfl, rfl⟩
      · omega
      · rw [e1]
        refine forget_of [] (by repeat' (first | exact ks_nil | (refine ks_cons rfl (by first | exact SubA.refl _ | exact SubA.d (SubD.nil _) | exact subA_ow (by first | rfl | (simp; done) | (simp; omega)) | exact subA_i (by first | rfl | (simp; done) | (simp; omega) | omega) | (refine SubA.of_eq ?_; first | rfl | (simp; done) | (simp; omega))) ?_))) ?_ rfl (by repeat' (first | exact trivial | exact insB_map _ | exact inB_ow rfl | exact inB_px rfl | exact inB_pr rfl | refine And.intro ?_ ?_)) (by repeat' (first | exact trivial | exact insB_map _ | exact inB_ow rfl | exact inB_px rfl | exact inB_pr rfl | refine And.intro ?_ ?_))
        exact kb_cons rfl (row_eq rfl) kb_nil
    · have hke : k = u := by simp at hd; omega
      clear hd
      subst hke
      repeat (first | (with_reducible apply aw_seq) | (with_reducible apply aw_reg) | (with_reducible apply rp_nil) | (with_reducible apply ae_norm) | (with_reducible apply aw_exit) | (with_reducible apply ae_exit) | (with_reducible apply be_exit) | (with_reducible apply aw_ret) | (with_reducible apply re_ret) | ((with_reducible apply be_other); exact rfl) | ((with_reducible apply dr_nil); first | kernel_rfl | exact rfl) | ((first | (with_reducible apply rp) | (with_reducible apply dr)); first | ((with_reducible apply does_move); (conv => lhs; whnf)) | ((with_reducible apply does_assign); (conv => lhs; whnf))))
      (with_reducible apply ret_ok); (focus (repeat' (first | (with_reducible apply rv_nil) | (with_reducible apply rv_cons) | ((with_reducible apply rv_tmp); exact rfl) | ((with_reducible apply rv_cell); exact rfl; exact rfl; exact tyOk rfl; exact rfl; exact rfl) | ((with_reducible apply rv_rowd); exact rfl; exact rfl; exact tyOk rfl; exact rfl; (first | (with_reducible assumption) | exact rfl | ((try simp only [List.length_map]); first | assumption | omega) | (simp; omega))) | ((with_reducible apply rv_row); exact rfl; exact rfl; exact tyOk rfl; exact rfl; (first | exact Nat.le_of_ble_eq_true rfl | omega | (simp; omega)))))); (first | exact rfl | (focus repeat' (first | exact frzVs_one (frzV_map _ _) | exact rfl | (apply frzVs_cons; (first | exact frzV_map _ _ | exact rfl))))); refine SubD.of_eq ?_
      rfl
end Go.Proofs.YtclhmdobhlalmaaDoor
