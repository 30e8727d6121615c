/-
  CodeFixed: what is read is written just so. No condition but the sizes.
-/
import Derived.Test.YtclhmdobhlalmaaDoorZDecode
import Derived.Test.YtclhmdobhlalmaaDoorZTellsC
import Derived.Test.YtclhmdobhlalmaaDoorZPick
import Derived.Test.YtclhmdobhlalmaaDoorZJoinD
namespace Go.Proofs.YtclhmdobhlalmaaDoor
set_option linter.unusedSimpArgs false
set_option linter.unusedVariables false
open Go.RowKit

theorem decF_err {d : Int} {n e : Nat} {s : List UInt8} {l : List Vl} (h : decF d n s = (e, l)) (he : e ≠ 0) : l = [] := by
  unfold decF at h
  split at h
  · split at h
    · injection h with h _
      exact absurd h.symm he
    · injection h with _ h
      exact h.symm
  · injection h with _ h
    exact h.symm
set_option maxHeartbeats 1000000 in
theorem codeFixed_pc (b : List UInt8) (n d : Int) (hb : b.length ≤ 4611686018427387904) : PC Tryd.prog 8 [byD b, iD n, iD d] (bD true) := by
  obtain ⟨k, hk, p1⟩ := picked_nat n 6 (by omega) (by omega)
  obtain ⟨⟨e, l⟩, hR⟩ : ∃ R, decF d k b = R := ⟨_, rfl⟩
  have d1 := Decode_pc b k d hb (by omega) hR
  have t1 := codeTells_pc
  by_cases he : e = 0
  · subst he
    obtain ⟨h1, h2, h3⟩ := decF_inv hR
    have e1 := EncodeK_pc l d (by omega) h2
    rw [← h3] at e1
    clear h2 h3 hR
    have hlk : ((l.length : Int) == (k : Int)) = true := by rw [h1]; exact beq_self_eq_true _
    refine pc_of_aw Tryd.func8 rfl (by kernel_rfl) mixed (by kernel_rfl) (by rw [Tryd.ntmps8]; exact Nat.le_of_ble_eq_true rfl) Tryd.results8 ?_
    repeat (first | (with_reducible apply aw_seq) | (with_reducible apply aw_reg) | (with_reducible apply rp_nil) | (with_reducible apply ae_norm) | ((with_reducible apply be_other); exact rfl) | ((with_reducible apply dr_nil); first | kernel_rfl | exact rfl) | ((first | (with_reducible apply rp) | (with_reducible apply dr)); first | ((with_reducible apply does_call_flat); exact rfl; exact rfl; exact (p1); exact rfl) | ((with_reducible apply does_call'); exact rfl; exact rfl; exact rfl; exact (p1)) | ((with_reducible apply does_call_flat); exact rfl; exact rfl; exact (d1); exact rfl) | ((with_reducible apply does_call'); exact rfl; exact rfl; exact rfl; exact (d1)) | ((with_reducible apply does_move); (conv => lhs; whnf)) | ((with_reducible apply does_assign); (conv => lhs; whnf)) | ((with_reducible apply does_ne); exact rfl; exact rfl) | ((with_reducible apply does_extract); exact rfl; exact rfl)) | ((first | (with_reducible apply rp1) | (with_reducible apply dr1)); first | ((with_reducible apply does_call1); exact rfl; exact rfl; exact rfl; exact (p1)) | ((with_reducible apply does_call1); exact rfl; exact rfl; exact rfl; exact (d1))))
    refine aw_cond rfl (fun hd => (by cases hd)) (fun hd => ?_)
    clear hd
    repeat (first | (with_reducible apply aw_seq) | (with_reducible apply aw_reg) | (with_reducible apply rp_nil) | (with_reducible apply ae_norm) | (with_reducible apply aw_ret) | (with_reducible apply re_ret) | (with_reducible apply aw_skip) | ((with_reducible apply be_other); exact rfl) | ((with_reducible apply dr_nil); first | kernel_rfl | exact rfl) | ((first | (with_reducible apply rp) | (with_reducible apply dr) | ((first | (with_reducible apply rpG) | (with_reducible apply drG)); exact rfl; (first | exact gval_t rfl | exact gval_f rfl | exact gval_gt rfl | exact gval_gf rfl); (focus repeat' (first | exact trivial | exact fun h => h | refine And.intro ?_ ?_ | (intro h; first | exact h | (simp only [Bool.and_eq_true] at h; first | exact h.1 | exact h.1.1 | exact h.1.1.1 | exact h.2) | (rw [h]; rfl) | (rw [hgd0, h]; rfl) | simp_all))); intro hgd; have hgd0 := hgd; (try simp only [decide_eq_true_eq, Bool.and_eq_true, Bool.not_eq_true', beq_iff_eq] at hgd))); first | ((with_reducible apply does_call_flat); exact rfl; exact rfl; exact (e1); exact rfl) | ((with_reducible apply does_call'); exact rfl; exact rfl; exact rfl; exact (e1)) | ((with_reducible apply does_call_flat); exact rfl; exact rfl; exact (t1); exact rfl) | ((with_reducible apply does_call'); exact rfl; exact rfl; exact rfl; exact (t1)) | (exact does_seq_by (c := true) rfl rfl (by simp)) | ((with_reducible apply does_move); (conv => lhs; whnf)) | ((with_reducible apply does_assign); (conv => lhs; whnf)) | ((with_reducible apply does_and); exact rfl; exact rfl; exact rfl; (first | exact trivial | exact fun h => h | (intro h; first | exact h | (simp only [Bool.and_eq_true] at h; first | exact h.1 | exact h.1.1 | exact h.1.1.1 | exact h.2) | (rw [h]; rfl) | (rw [hgd0, h]; rfl) | simp_all))) | ((with_reducible apply does_eq); exact rfl; exact rfl) | ((with_reducible apply does_extract); exact rfl; exact rfl) | ((with_reducible apply does_len_map); exact tyOk rfl; exact rfl; exact rfl) | ((with_reducible apply does_conv_i64); exact tyOk rfl; exact tyOk rfl; exact rfl; exact rfl; omega; omega) | ((with_reducible apply does_conv_int); exact tyOk rfl; exact tyOk rfl; exact rfl; exact rfl) | ((with_reducible apply does_conv_str); exact tyOk rfl; exact tyOk rfl; exact rfl; exact rfl) | ((with_reducible apply does_conv_bs); exact tyOk rfl; exact rfl; exact tyOk rfl; exact rfl; exact tyOk rfl; exact rfl; exact rfl)) | ((first | (with_reducible apply rp1) | (with_reducible apply dr1)); first | ((with_reducible apply does_call1); exact rfl; exact rfl; exact rfl; exact (e1)) | ((with_reducible apply does_call1); exact rfl; exact rfl; exact rfl; exact (t1)) | (exact does_seq_by (c := true) rfl rfl (by simp))) | ((first | (with_reducible apply rp2) | (with_reducible apply dr2)); first | (exact does_seq_by (c := true) rfl rfl (by simp))) | ((first | (with_reducible apply rpN) | (with_reducible apply drN)); first | (exact does_seq_by (c := true) rfl rfl (by simp))))
    (with_reducible apply ret_ok); (focus (repeat' (first | (with_reducible apply rv_nil) | (with_reducible apply rv_cons) | ((with_reducible apply rv_tmp); exact rfl) | ((with_reducible apply rv_cell); exact rfl; exact rfl; exact tyOk rfl; exact rfl; exact rfl) | ((with_reducible apply rv_rowd); exact rfl; exact rfl; exact tyOk rfl; exact rfl; (first | (with_reducible assumption) | exact rfl | ((try simp only [List.length_map]); first | assumption | omega) | (simp; omega))) | ((with_reducible apply rv_row); exact rfl; exact rfl; exact tyOk rfl; exact rfl; (first | exact Nat.le_of_ble_eq_true rfl | omega | (simp; omega)))))); (first | exact rfl | (focus repeat' (first | exact frzVs_one (frzV_map _ _) | exact rfl | (apply frzVs_cons; (first | exact frzV_map _ _ | exact rfl))))); refine SubD.of_eq ?_
    rw [hlk]
    rfl
  · have hl := decF_err hR he
    subst hl
    have hb2 := ne_bne he
    refine pc_of_aw Tryd.func8 rfl (by kernel_rfl) mixed (by kernel_rfl) (by rw [Tryd.ntmps8]; exact Nat.le_of_ble_eq_true rfl) Tryd.results8 ?_
    repeat (first | (with_reducible apply aw_seq) | (with_reducible apply aw_reg) | (with_reducible apply rp_nil) | (with_reducible apply ae_norm) | ((with_reducible apply be_other); exact rfl) | ((with_reducible apply dr_nil); first | kernel_rfl | exact rfl) | ((first | (with_reducible apply rp) | (with_reducible apply dr)); first | ((with_reducible apply does_call_flat); exact rfl; exact rfl; exact (p1); exact rfl) | ((with_reducible apply does_call'); exact rfl; exact rfl; exact rfl; exact (p1)) | ((with_reducible apply does_call_flat); exact rfl; exact rfl; exact (d1); exact rfl) | ((with_reducible apply does_call'); exact rfl; exact rfl; exact rfl; exact (d1)) | ((with_reducible apply does_move); (conv => lhs; whnf)) | ((with_reducible apply does_assign); (conv => lhs; whnf)) | ((with_reducible apply does_ne); exact rfl; exact rfl) | ((with_reducible apply does_extract); exact rfl; exact rfl)) | ((first | (with_reducible apply rp1) | (with_reducible apply dr1)); first | ((with_reducible apply does_call1); exact rfl; exact rfl; exact rfl; exact (p1)) | ((with_reducible apply does_call1); exact rfl; exact rfl; exact rfl; exact (d1))))
    refine aw_cond rfl (fun hd => ?_) (fun hd => (absurd (hb2.symm.trans hd) (by decide)))
    clear hd
    repeat (first | (with_reducible apply aw_seq) | (with_reducible apply aw_reg) | (with_reducible apply rp_nil) | (with_reducible apply ae_norm) | (with_reducible apply aw_ret) | (with_reducible apply ae_ret) | (with_reducible apply re_ret) | ((with_reducible apply be_other); exact rfl) | ((with_reducible apply dr_nil); first | kernel_rfl | exact rfl) | ((first | (with_reducible apply rp) | (with_reducible apply dr) | ((first | (with_reducible apply rpG) | (with_reducible apply drG)); exact rfl; (first | exact gval_t rfl | exact gval_f rfl | exact gval_gt rfl | exact gval_gf rfl); (focus repeat' (first | exact trivial | exact fun h => h | refine And.intro ?_ ?_ | (intro h; first | exact h | (simp only [Bool.and_eq_true] at h; first | exact h.1 | exact h.1.1 | exact h.1.1.1 | exact h.2) | (rw [h]; rfl) | (rw [hgd0, h]; rfl) | simp_all))); intro hgd; have hgd0 := hgd; (try simp only [decide_eq_true_eq, Bool.and_eq_true, Bool.not_eq_true', beq_iff_eq] at hgd))); first | ((with_reducible apply does_call_flat); exact rfl; exact rfl; exact (t1); exact rfl) | ((with_reducible apply does_call'); exact rfl; exact rfl; exact rfl; exact (t1)) | ((with_reducible apply does_move); (conv => lhs; whnf)) | ((with_reducible apply does_assign); (conv => lhs; whnf)) | ((with_reducible apply does_and); exact rfl; exact rfl; exact rfl; (first | exact trivial | exact fun h => h | (intro h; first | exact h | (simp only [Bool.and_eq_true] at h; first | exact h.1 | exact h.1.1 | exact h.1.1.1 | exact h.2) | (rw [h]; rfl) | (rw [hgd0, h]; rfl) | simp_all))) | ((with_reducible apply does_eq); exact rfl; exact rfl) | ((with_reducible apply does_len_map); exact tyOk rfl; exact rfl; exact rfl)) | ((first | (with_reducible apply rp1) | (with_reducible apply dr1)); first | ((with_reducible apply does_call1); exact rfl; exact rfl; exact rfl; exact (t1))))
    (with_reducible apply ret_ok); (focus (repeat' (first | (with_reducible apply rv_nil) | (with_reducible apply rv_cons) | ((with_reducible apply rv_tmp); exact rfl) | ((with_reducible apply rv_cell); exact rfl; exact rfl; exact tyOk rfl; exact rfl; exact rfl) | ((with_reducible apply rv_rowd); exact rfl; exact rfl; exact tyOk rfl; exact rfl; (first | (with_reducible assumption) | exact rfl | ((try simp only [List.length_map]); first | assumption | omega) | (simp; omega))) | ((with_reducible apply rv_row); exact rfl; exact rfl; exact tyOk rfl; exact rfl; (first | exact Nat.le_of_ble_eq_true rfl | omega | (simp; omega)))))); (first | exact rfl | (focus repeat' (first | exact frzVs_one (frzV_map _ _) | exact rfl | (apply frzVs_cons; (first | exact frzV_map _ _ | exact rfl))))); refine SubD.of_eq ?_
    rfl
theorem codeFixed_walk (A : Option Addr) (l : List UInt8) (c : Nat) (m n : Int) (w : World) (h : RdB w w.heap.size A l) (hc : l.length ≤ c) (_ : l.length ≤ 140737488355328) (hm : I64 m) (hn : I64 n) (hg : GlOk (Lt w) w) : Calls Tryd.prog 8 #[.slice A l.length c, .int .i64 m, .int .i64 n] w fun e w' => e = .returned (.bool true) ∧ Below w.heap.size w w' :=
  calls_of_pc (codeFixed_pc l m n (by omega)) (rep_cons (rep_by h hc) (rep_cons (rep_int w m) (rep_cons (rep_int w n) rfl))) hg
end Go.Proofs.YtclhmdobhlalmaaDoor
