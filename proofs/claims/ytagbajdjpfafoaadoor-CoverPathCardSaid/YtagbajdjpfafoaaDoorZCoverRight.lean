/-
  The law CoverRight returns true. No condition.
-/
import Derived.Test.YtagbajdjpfafoaaDoorZCovL
import Derived.Test.YtagbajdjpfafoaaDoorZRcS
import Derived.Test.YtagbajdjpfafoaaDoorZJoinD
namespace Go.Proofs.YtagbajdjpfafoaaDoor
set_option linter.unusedSimpArgs false
set_option linter.unusedVariables false
open Go.RowKit

theorem slot_at {l : List Sl3} {i : Nat} {s : Sl3} (h : l[i]? = some s) : (l.map Sl3.cs)[i]? = some s.cs := by rw [List.getElem?_map, h]; rfl
set_option maxHeartbeats 2000000 in
theorem coverRight_pc (n : Int) (l : List Raw) (w : Int) : PC Tryd.prog 7 [iD n, rawsD l, iD w] (bD true) := by
  obtain ⟨m, hm, p0⟩ := modeOf_pc n
  have q1 := slotsOf_pc l
  have hl := slF_len l
  have hok := slF_ok l
  generalize slF l = s at *
  have hp := logS_pow hl
  have hl16 : s.length ≤ 16 := by omega
  have op := opens_pc s w (by omega)
  have ho := opnF_len w s.length
  generalize opnF w s.length = o at *
  have r1 := sroot_pc m hm s hl hok
  have hpos := rootSF_pos m hl
  have c1 := coverOf_pc m hm s o hl ho hok
  have hsel := covF_sel m (logS s.length) s o hp (ho.trans hp)
  have hbr := bld_right m (logS s.length) s o [] [] hp (ho.trans hp) (by omega) hok
  rw [List.append_nil, List.append_nil] at hbr
  have hrl := rootSF_len m hp (by omega) hok
  have d0 := rooted_pc m hm (logS s.length) o (covF m (logS s.length) s o).1 (covF m (logS s.length) s o).2 (ho.trans hp) (by omega) (covF_ok m _ s o hok) (by rw [hbr]; show (rootSF m s).length ≤ _; omega)
  rw [hbr] at d0
  have d1 : PC Tryd.prog 25 [iD m, boolsD o, .ag [slotsD (covF m (logS s.length) s o).1, byL (covF m (logS s.length) s o).2]] (.tu [byD (rootSF m s), iD 0]) := d0
  clear d0 hbr
  rw [hsel] at c1 d1
  clear hsel
  generalize (covF m (logS s.length) s o).2 = R at *
  have hcl : (selB s o).length = cntB o := selB_len s o ho.symm
  have hget := selB_get s o
  generalize selB s o = C at *
  generalize rootSF m s = r at *
  clear hp hok hl hrl
  have hr0 : decide ((r.length : Int) > 0) = true := decide_eq_true (by omega)
  refine pc_of_aw Tryd.func7 rfl (by kernel_rfl) mixed (by kernel_rfl) (by rw [Tryd.ntmps7]; exact Nat.le_of_ble_eq_true rfl) Tryd.results7 ?_
  repeat (first | (with_reducible apply aw_seq) | (with_reducible apply aw_reg) | (with_reducible apply rp_nil) | (with_reducible apply ae_norm) | (with_reducible apply aw_block) | ((with_reducible apply be_other); exact rfl) | ((with_reducible apply dr_nil); first | kernel_rfl | exact rfl) | ((first | (with_reducible apply rp) | (with_reducible apply dr)); first | ((with_reducible apply does_call_flat); exact rfl; exact rfl; exact (p0); exact rfl) | ((with_reducible apply does_call'); exact rfl; exact rfl; exact rfl; exact (p0)) | ((with_reducible apply does_call_flat); exact rfl; exact rfl; exact (q1); exact rfl) | ((with_reducible apply does_call'); exact rfl; exact rfl; exact rfl; exact (q1)) | ((with_reducible apply does_call_flat); exact rfl; exact rfl; exact (op); exact rfl) | ((with_reducible apply does_call'); exact rfl; exact rfl; exact rfl; exact (op)) | ((with_reducible apply does_call_flat); exact rfl; exact rfl; exact (r1); exact rfl) | ((with_reducible apply does_call'); exact rfl; exact rfl; exact rfl; exact (r1)) | ((with_reducible apply does_call_flat); exact rfl; exact rfl; exact (c1); exact rfl) | ((with_reducible apply does_call'); exact rfl; exact rfl; exact rfl; exact (c1)) | ((with_reducible apply does_call_flat); exact rfl; exact rfl; exact (d1); exact rfl) | ((with_reducible apply does_call'); exact rfl; exact rfl; exact rfl; exact (d1)) | ((with_reducible apply does_move); (conv => lhs; whnf)) | ((with_reducible apply does_assign); (conv => lhs; whnf)) | ((with_reducible apply does_load_var); exact tyOk rfl; exact rfl; exact rfl; exact rfl; exact rfl) | ((with_reducible apply does_load_elem); exact tyOk rfl; exact rfl; exact rfl; (first | assumption | exact map_get (by assumption) | exact rfl); exact rfl) | ((with_reducible apply does_load_own); exact tyOk rfl; exact rfl; exact rfl; exact rfl; (first | assumption | exact map_get (by assumption) | exact rfl); exact rfl) | ((with_reducible apply does_load_row); exact tyOk rfl; exact rfl; exact rfl; exact rfl; (first | exact Nat.le_of_ble_eq_true rfl | omega | (simp; omega)); exact rfl) | ((with_reducible apply does_extract); exact rfl; exact rfl) | ((with_reducible apply does_len_map); exact tyOk rfl; exact rfl; exact rfl)) | ((first | (with_reducible apply rp1) | (with_reducible apply dr1)); first | ((with_reducible apply does_call1); exact rfl; exact rfl; exact rfl; exact (p0)) | ((with_reducible apply does_call1); exact rfl; exact rfl; exact rfl; exact (q1)) | ((with_reducible apply does_call1); exact rfl; exact rfl; exact rfl; exact (op)) | ((with_reducible apply does_call1); exact rfl; exact rfl; exact rfl; exact (r1)) | ((with_reducible apply does_call1); exact rfl; exact rfl; exact rfl; exact (c1)) | ((with_reducible apply does_call1); exact rfl; exact rfl; exact rfl; exact (d1)) | ((with_reducible apply does_alloc); exact tyOk rfl; exact rfl)) | ((first | (with_reducible apply rpN) | (with_reducible apply drN)); first | ((with_reducible apply does_store); exact tyOk rfl; exact rfl; exact rfl; (conv => lhs; whnf); exact rfl; exact rfl; (first | exact Nat.le_of_ble_eq_true rfl | omega | (simp; omega))) | ((with_reducible apply does_store_whole); exact tyOk rfl; exact rfl; exact rfl; exact rfl; exact rfl; exact rfl)))
  refine aw_loop (fun n s1 => ∃ k, k ≤ s.length ∧ n = s.length - k ∧
    s1 = ⟨[(8, .d (slotsD s)), (9, .d (boolsD o)), (10, .d (byD r)), (11, .d (iD 0)), (12, .px 12 0), (13, .d (iD 0)), (14, .d (byD r)), (15, .d (iD 0)), (16, .d (iD (cntB (o.take k)))), (46, .d (iD s.length)), (47, .d (iD k))], [(12, .var 51 [.d (slotsD C), .d (byL R)])]⟩) _ _ ?_ ⟨0, by omega, rfl, rfl⟩ ?_
  · refine forget_of [] (by repeat' (first | exact ks_nil | (refine ks_cons rfl (by first | exact SubA.refl _ | exact SubA.d (SubD.nil _) | exact subA_ow (by first | rfl | (simp; done) | (simp; omega)) | exact subA_i (by first | rfl | (simp; done) | (simp; omega) | omega) | (refine SubA.of_eq ?_; first | rfl | (simp; done) | (simp; omega))) ?_))) (by repeat' (first | exact trivial | exact rfl | exact kb_d rfl | refine And.intro ?_ ?_)) rfl (by repeat' (first | exact trivial | exact insB_map _ | exact inB_ow rfl | exact inB_px rfl | exact inB_pr rfl | refine And.intro ?_ ?_)) (by repeat' (first | exact trivial | exact insB_map _ | exact inB_ow rfl | exact inB_px rfl | exact inB_pr rfl | refine And.intro ?_ ?_))
  · rintro n1 s1 ⟨k, hk, rfl, rfl⟩
    obtain ⟨c, hc⟩ : ∃ c, cntB (o.take k) = c := ⟨_, rfl⟩
    rw [hc]
    repeat (first | (with_reducible apply aw_seq) | (with_reducible apply aw_reg) | (with_reducible apply rp_nil) | (with_reducible apply ae_norm) | ((with_reducible apply be_other); exact rfl) | ((with_reducible apply dr_nil); first | kernel_rfl | exact rfl) | ((first | (with_reducible apply rp) | (with_reducible apply dr)); first | ((with_reducible apply does_lt); exact rfl; exact rfl)))
    refine aw_cond rfl (fun hd => ?_) (fun hd => ?_)
    · have hlt : k < s.length := by simp at hd; omega
      clear hd
      obtain ⟨b, hb⟩ : ∃ b, o[k]? = some b := ⟨_, List.getElem?_eq_getElem (by omega)⟩
      have hb2 : (o.map fun b => [bD b])[k]? = some [bD b] := by rw [List.getElem?_map, hb]; rfl
      have hn := cntB_take hb
      rw [hc] at hn
      repeat (first | (with_reducible apply aw_seq) | (with_reducible apply aw_reg) | (with_reducible apply rp_nil) | (with_reducible apply ae_norm) | (with_reducible apply aw_block) | (with_reducible apply aw_skip) | ((with_reducible apply be_other); exact rfl) | ((with_reducible apply dr_nil); first | kernel_rfl | exact rfl) | ((first | (with_reducible apply rp) | (with_reducible apply dr)); first | ((with_reducible apply does_move); (conv => lhs; whnf)) | ((with_reducible apply does_assign); (conv => lhs; whnf)) | ((with_reducible apply does_load_var); exact tyOk rfl; exact rfl; exact rfl; exact rfl; exact rfl) | ((with_reducible apply does_load_elem); exact tyOk rfl; exact rfl; exact rfl; (first | assumption | exact map_get (by assumption) | exact rfl); exact rfl) | ((with_reducible apply does_index_sl); exact tyOk rfl; exact rfl; exact tyOk rfl; exact rfl; exact rfl; exact rfl; exact rfl; (first | omega | (dsimp only; omega) | (dsimp only; simp only [List.length_map, List.length_append, List.length_cons, List.length_nil] at *; omega) | (simp only [List.length_map, List.length_append, List.length_cons, List.length_nil] at *; omega) | (simp; omega)))))
      cases b with
      | true =>
        have hn : cntB (o.take (k + 1)) = c + 1 := hn
        obtain ⟨x, hx⟩ : ∃ x, s[k]? = some x := ⟨_, List.getElem?_eq_getElem hlt⟩
        have hC := hget k x hb hx
        rw [hc] at hC
        have hc16 : cntB o ≤ o.length := List.length_filter_le _ _
        have hcC : c < C.length := (List.getElem?_eq_some_iff.1 hC).1
        have g1 := slot_at hx
        have g2 := slot_at hC
        have s1 := sameSlot_pc x x
        have hsm : (x.full == x.full && x.salt == x.salt && x.data == x.data) = true := by simp
        rw [hsm] at s1
        obtain ⟨fu, sa, da⟩ := x
        have s1 : PC Tryd.prog 18 [.ag [bD fu, byD sa, byD da], .ag [bD fu, byD sa, byD da]] (bD true) := s1
        have g1 : (s.map Sl3.cs)[k]? = some [bD fu, byD sa, byD da] := g1
        have g2 : (C.map Sl3.cs)[c]? = some [bD fu, byD sa, byD da] := g2
        have hcond : (decide ((c : Int) ≥ (C.length : Int)) || !true) = false := by simp; omega
        refine aw_cond rfl (fun _ => ?_) (fun hd => (by cases hd))
        repeat (first | (with_reducible apply aw_seq) | (with_reducible apply ae_norm) | (with_reducible apply aw_regD) | ((with_reducible apply be_other); exact rfl) | ((with_reducible apply dr_nil); first | kernel_rfl | exact rfl) | ((first | (with_reducible apply rp) | (with_reducible apply dr) | ((first | (with_reducible apply rpG) | (with_reducible apply drG)); exact rfl; (first | exact gval_t rfl | exact gval_f rfl | exact gval_gt rfl | exact gval_gf rfl); (focus repeat' (first | exact trivial | exact fun h => h | refine And.intro ?_ ?_ | (intro h; first | exact h | (simp only [Bool.and_eq_true] at h; first | exact h.1 | exact h.1.1 | exact h.1.1.1 | exact h.2) | simp_all))); intro hgd; (try simp only [decide_eq_true_eq, Bool.and_eq_true, Bool.not_eq_true', beq_iff_eq] at hgd))); first | ((with_reducible apply does_call_flat); exact rfl; exact rfl; exact (s1); exact rfl) | ((with_reducible apply does_call'); exact rfl; exact rfl; exact rfl; exact (s1)) | ((with_reducible apply does_move); (conv => lhs; whnf)) | ((with_reducible apply does_and); exact rfl; exact rfl; exact rfl; (first | exact trivial | exact fun h => h | (intro h; first | exact h | (simp only [Bool.and_eq_true] at h; first | exact h.1 | exact h.1.1 | exact h.1.1.1 | exact h.2) | simp_all))) | ((with_reducible apply does_or); exact rfl; exact rfl; exact rfl; (first | exact trivial | exact fun h => h | (intro h; first | exact h | (simp only [Bool.and_eq_true] at h; first | exact h.1 | exact h.1.1 | exact h.1.1.1 | exact h.2) | simp_all))) | ((with_reducible apply does_fieldAddr); exact tyOk rfl; exact rfl; exact rfl; decide; exact rfl) | ((with_reducible apply does_load_var); exact tyOk rfl; exact rfl; exact rfl; exact rfl; exact rfl) | ((with_reducible apply does_load_elem); exact tyOk rfl; exact rfl; exact rfl; (first | assumption | exact map_get (by assumption) | exact rfl); exact rfl) | ((with_reducible apply does_load_own); exact tyOk rfl; exact rfl; exact rfl; exact rfl; (first | assumption | exact map_get (by assumption) | exact rfl); exact rfl) | ((with_reducible apply does_load_row); exact tyOk rfl; exact rfl; exact rfl; exact rfl; (first | exact Nat.le_of_ble_eq_true rfl | omega | (simp; omega)); exact rfl) | ((with_reducible apply does_load_elem_whole); exact tyOk rfl; exact rfl; exact rfl; (first | assumption | exact map_get (by assumption) | exact rfl); exact rfl) | ((with_reducible apply does_index_sl); exact tyOk rfl; exact rfl; exact tyOk rfl; exact rfl; exact rfl; exact rfl; exact rfl; (first | omega | (dsimp only; omega) | (dsimp only; simp only [List.length_map, List.length_append, List.length_cons, List.length_nil] at *; omega) | (simp only [List.length_map, List.length_append, List.length_cons, List.length_nil] at *; omega) | (simp; omega))) | ((with_reducible apply does_ge); exact rfl; exact rfl) | ((with_reducible apply does_not); exact rfl) | ((with_reducible apply does_len_map); exact tyOk rfl; exact rfl; exact rfl)) | ((first | (with_reducible apply rp1) | (with_reducible apply dr1)); first | ((with_reducible apply does_call1); exact rfl; exact rfl; exact rfl; exact (s1))))
        refine aw_cond rfl (fun hd => absurd (hcond.symm.trans hd) (by decide)) (fun _ => ?_)
        repeat (first | (with_reducible apply aw_reg) | (with_reducible apply rp_nil) | (with_reducible apply ae_norm) | (with_reducible apply be_norm) | (with_reducible apply aw_skip) | ((with_reducible apply be_other); exact rfl) | ((with_reducible apply dr_nil); first | kernel_rfl | exact rfl) | ((first | (with_reducible apply rp) | (with_reducible apply dr)); first | ((with_reducible apply does_move); (conv => lhs; whnf)) | ((with_reducible apply does_assign); (conv => lhs; whnf)) | ((with_reducible apply does_add); exact rfl; exact rfl; omega; omega)))
        refine ⟨_, _, ?_, ?_, k + 1, by omega, rfl, rfl⟩
        · omega
        · rw [hn]
          refine forget_of [] (by repeat' (first | exact ks_nil | (refine ks_cons rfl (by first | exact SubA.refl _ | exact SubA.d (SubD.nil _) | exact subA_ow (by first | rfl | (simp; done) | (simp; omega)) | exact subA_i (by first | rfl | (simp; done) | (simp; omega) | omega) | (refine SubA.of_eq ?_; first | rfl | (simp; done) | (simp; omega))) ?_))) (by repeat' (first | exact trivial | exact rfl | exact kb_d rfl | refine And.intro ?_ ?_)) rfl (by repeat' (first | exact trivial | exact insB_map _ | exact inB_ow rfl | exact inB_px rfl | exact inB_pr rfl | refine And.intro ?_ ?_)) (by repeat' (first | exact trivial | exact insB_map _ | exact inB_ow rfl | exact inB_px rfl | exact inB_pr rfl | refine And.intro ?_ ?_))
      | false =>
        have hn : cntB (o.take (k + 1)) = c := hn
        refine aw_cond rfl (fun hd => (by cases hd)) (fun _ => ?_)
        repeat (first | (with_reducible apply aw_reg) | (with_reducible apply rp_nil) | (with_reducible apply ae_norm) | (with_reducible apply be_norm) | (with_reducible apply aw_skip) | ((with_reducible apply be_other); exact rfl) | ((with_reducible apply dr_nil); first | kernel_rfl | exact rfl) | ((first | (with_reducible apply rp) | (with_reducible apply dr)); first | ((with_reducible apply does_move); (conv => lhs; whnf)) | ((with_reducible apply does_add); exact rfl; exact rfl; omega; omega)))
        refine ⟨_, _, ?_, ?_, k + 1, by omega, rfl, rfl⟩
        · omega
        · rw [hn]
          refine forget_of [] (by repeat' (first | exact ks_nil | (refine ks_cons rfl (by first | exact SubA.refl _ | exact SubA.d (SubD.nil _) | exact subA_ow (by first | rfl | (simp; done) | (simp; omega)) | exact subA_i (by first | rfl | (simp; done) | (simp; omega) | omega) | (refine SubA.of_eq ?_; first | rfl | (simp; done) | (simp; omega))) ?_))) (by repeat' (first | exact trivial | exact rfl | exact kb_d rfl | refine And.intro ?_ ?_)) rfl (by repeat' (first | exact trivial | exact insB_map _ | exact inB_ow rfl | exact inB_px rfl | exact inB_pr rfl | refine And.intro ?_ ?_)) (by repeat' (first | exact trivial | exact insB_map _ | exact inB_ow rfl | exact inB_px rfl | exact inB_pr rfl | refine And.intro ?_ ?_))
    · have hke : k = o.length := by simp at hd; omega
      clear hd
      rw [hke, List.take_length, ← hcl] at hc
      subst hc
      repeat (first | (with_reducible apply aw_seq) | (with_reducible apply aw_reg) | (with_reducible apply rp_nil) | (with_reducible apply ae_norm) | (with_reducible apply aw_exit) | (with_reducible apply ae_exit) | (with_reducible apply be_exit) | (with_reducible apply aw_ret) | (with_reducible apply re_ret) | ((with_reducible apply be_other); exact rfl) | ((with_reducible apply dr_nil); first | kernel_rfl | exact rfl) | ((first | (with_reducible apply rp) | (with_reducible apply dr) | ((first | (with_reducible apply rpG) | (with_reducible apply drG)); exact rfl; (first | exact gval_t rfl | exact gval_f rfl | exact gval_gt rfl | exact gval_gf rfl); (focus repeat' (first | exact trivial | exact fun h => h | refine And.intro ?_ ?_ | (intro h; first | exact h | (simp only [Bool.and_eq_true] at h; first | exact h.1 | exact h.1.1 | exact h.1.1.1 | exact h.2) | simp_all))); intro hgd; (try simp only [decide_eq_true_eq, Bool.and_eq_true, Bool.not_eq_true', beq_iff_eq] at hgd))); first | (exact does_seq_by (c := true) rfl rfl (by simp)) | ((with_reducible apply does_move); (conv => lhs; whnf)) | ((with_reducible apply does_assign); (conv => lhs; whnf)) | ((with_reducible apply does_and); exact rfl; exact rfl; exact rfl; (first | exact trivial | exact fun h => h | (intro h; first | exact h | (simp only [Bool.and_eq_true] at h; first | exact h.1 | exact h.1.1 | exact h.1.1.1 | exact h.2) | simp_all))) | ((with_reducible apply does_fieldAddr); exact tyOk rfl; exact rfl; exact rfl; decide; exact rfl) | ((with_reducible apply does_load_var); exact tyOk rfl; exact rfl; exact rfl; exact rfl; exact rfl) | ((with_reducible apply does_eq); exact rfl; exact rfl) | ((with_reducible apply does_gt); exact rfl; exact rfl) | ((with_reducible apply does_len_map); exact tyOk rfl; exact rfl; exact rfl) | ((with_reducible apply does_conv_i64); exact tyOk rfl; exact tyOk rfl; exact rfl; exact rfl; omega; omega) | ((with_reducible apply does_conv_int); exact tyOk rfl; exact tyOk rfl; exact rfl; exact rfl) | ((with_reducible apply does_conv_str); exact tyOk rfl; exact tyOk rfl; exact rfl; exact rfl) | ((with_reducible apply does_conv_bs); exact tyOk rfl; exact rfl; exact tyOk rfl; exact rfl; exact tyOk rfl; exact rfl; exact rfl)) | ((first | (with_reducible apply rp1) | (with_reducible apply dr1)); first | (exact does_seq_by (c := true) rfl rfl (by simp))) | ((first | (with_reducible apply rp2) | (with_reducible apply dr2)); first | (exact does_seq_by (c := true) rfl rfl (by simp))) | ((first | (with_reducible apply rpN) | (with_reducible apply drN)); first | (exact does_seq_by (c := true) rfl rfl (by simp))))
      (with_reducible apply ret_ok); (focus (repeat' (first | (with_reducible apply rv_nil) | (with_reducible apply rv_cons) | ((with_reducible apply rv_tmp); exact rfl) | ((with_reducible apply rv_cell); exact rfl; exact rfl; exact tyOk rfl; exact rfl; exact rfl) | ((with_reducible apply rv_rowd); exact rfl; exact rfl; exact tyOk rfl; exact rfl; (first | (with_reducible assumption) | exact rfl | ((try simp only [List.length_map]); first | assumption | omega) | (simp; omega))) | ((with_reducible apply rv_row); exact rfl; exact rfl; exact tyOk rfl; exact rfl; (first | exact Nat.le_of_ble_eq_true rfl | omega | (simp; omega)))))); (first | exact rfl | (focus repeat' (first | exact frzVs_one (frzV_map _ _) | exact rfl | (apply frzVs_cons; (first | exact frzV_map _ _ | exact rfl))))); refine SubD.of_eq ?_
      show bD ((0 : Int) == 0 && (0 : Int) == 0 && (0 : Int) == 0 && decide ((r.length : Int) > 0) && (C.length : Int) == (C.length : Int) && true) = bD true
      rw [hr0]
      simp
theorem coverRight_walk (n : Int) (A : Option Addr) (l : List Raw) (c : Nat) (a : Int) (w : World) (hn : I64 n) (h : RdR w w.heap.size A l) (hc : l.length ≤ c) (_ : c * 40 ≤ 140737488351232) (_ : ∀ r ∈ l, r.ok) (ha : I64 a) (hg : GlOk (Lt w) w) : Calls Tryd.prog 7 #[.int .i64 n, .slice A l.length c, .int .i64 a] w fun e w' => e = .returned (.bool true) ∧ Below w.heap.size w w' :=
  calls_of_pc (coverRight_pc n l a) (rep_cons (rep_int w n) (rep_cons (rep_raws h hc) (rep_cons (rep_int w a) rfl))) hg
end Go.Proofs.YtagbajdjpfafoaaDoor
