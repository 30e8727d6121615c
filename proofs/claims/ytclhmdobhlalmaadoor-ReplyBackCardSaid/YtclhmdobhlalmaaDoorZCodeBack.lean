/-
  CodeBack: a row is read as it was written. No condition but the sizes.
-/
import Derived.Test.YtclhmdobhlalmaaDoorZDecode
import Derived.Test.YtclhmdobhlalmaaDoorZTellsC
import Derived.Test.YtclhmdobhlalmaaDoorZVal2
import Derived.Test.YtclhmdobhlalmaaDoorZJoinD
namespace Go.Proofs.YtclhmdobhlalmaaDoor
set_option linter.unusedSimpArgs false
set_option linter.unusedVariables false
open Go.RowKit

theorem valsG_pc (l : List Raw) : PC Tryd.prog 21 [rawsD l] (valsD (valsG l)) := (vals_pco l).pc
theorem gi_raws {l : List Raw} (h : ∀ r ∈ l, r.ok) : ∀ v ∈ valsG l, Gi v :=
  valsG_gi l fun r hr => by
    have h2 := (h r hr).a
    unfold I64 at h2
    omega
set_option maxHeartbeats 1000000 in
theorem codeBack_pc (l : List Raw) (d : Int) (h : ∀ v ∈ valsG l, Gi v) : PC Tryd.prog 7 [rawsD l, iD d] (bD true) := by
  have v1 := valsG_pc l
  have hl := valsG_len l
  generalize valsG l = a at *
  have e1 := Encode_pc a d hl fun v hv => (h v hv).1
  have n1 := (encF_len d 0 a fun v hv => (h v hv).1).1
  have d1 := Decode_pc (encF d 0 a) a.length d (by omega) hl (decF_enc d h)
  have s1 := sameRow_pc a (by omega)
  have t1 := codeTells_pc
  clear h n1
  generalize encF d 0 a = b at *
  refine pc_of_aw Tryd.func7 rfl (by kernel_rfl) mixed (by kernel_rfl) (by rw [Tryd.ntmps7]; exact Nat.le_of_ble_eq_true rfl) Tryd.results7 ?_
  repeat (first | (with_reducible apply aw_seq) | (with_reducible apply aw_reg) | (with_reducible apply rp_nil) | (with_reducible apply ae_norm) | (with_reducible apply aw_ret) | (with_reducible apply re_ret) | ((with_reducible apply be_other); exact rfl) | ((with_reducible apply dr_nil); first | kernel_rfl | exact rfl) | ((first | (with_reducible apply rp) | (with_reducible apply dr) | ((first | (with_reducible apply rpG) | (with_reducible apply drG)); exact rfl; (first | exact gval_t rfl | exact gval_f rfl | exact gval_gt rfl | exact gval_gf rfl); (focus repeat' (first | exact trivial | exact fun h => h | refine And.intro ?_ ?_ | (intro h; first | exact h | (simp only [Bool.and_eq_true] at h; first | exact h.1 | exact h.1.1 | exact h.1.1.1 | exact h.2) | (rw [h]; rfl) | (rw [hgd0, h]; rfl) | simp_all))); intro hgd; have hgd0 := hgd; (try simp only [decide_eq_true_eq, Bool.and_eq_true, Bool.not_eq_true', beq_iff_eq] at hgd))); first | ((with_reducible apply does_call_flat); exact rfl; exact rfl; exact (v1); exact rfl) | ((with_reducible apply does_call'); exact rfl; exact rfl; exact rfl; exact (v1)) | ((with_reducible apply does_call_flat); exact rfl; exact rfl; exact (e1); exact rfl) | ((with_reducible apply does_call'); exact rfl; exact rfl; exact rfl; exact (e1)) | ((with_reducible apply does_call_flat); exact rfl; exact rfl; exact (d1); exact rfl) | ((with_reducible apply does_call'); exact rfl; exact rfl; exact rfl; exact (d1)) | ((with_reducible apply does_call_flat); exact rfl; exact rfl; exact (t1); exact rfl) | ((with_reducible apply does_call'); exact rfl; exact rfl; exact rfl; exact (t1)) | ((with_reducible apply does_call_flat); exact rfl; exact rfl; exact (s1); exact rfl) | ((with_reducible apply does_call'); exact rfl; exact rfl; exact rfl; exact (s1)) | ((with_reducible apply does_move); (conv => lhs; whnf)) | ((with_reducible apply does_assign); (conv => lhs; whnf)) | ((with_reducible apply does_and); exact rfl; exact rfl; exact rfl; (first | exact trivial | exact fun h => h | (intro h; first | exact h | (simp only [Bool.and_eq_true] at h; first | exact h.1 | exact h.1.1 | exact h.1.1.1 | exact h.2) | (rw [h]; rfl) | (rw [hgd0, h]; rfl) | simp_all))) | ((with_reducible apply does_eq); exact rfl; exact rfl) | ((with_reducible apply does_extract); exact rfl; exact rfl) | ((with_reducible apply does_len_map); exact tyOk rfl; exact rfl; exact rfl)) | ((first | (with_reducible apply rp1) | (with_reducible apply dr1)); first | ((with_reducible apply does_call1); exact rfl; exact rfl; exact rfl; exact (v1)) | ((with_reducible apply does_call1); exact rfl; exact rfl; exact rfl; exact (e1)) | ((with_reducible apply does_call1); exact rfl; exact rfl; exact rfl; exact (d1)) | ((with_reducible apply does_call1); exact rfl; exact rfl; exact rfl; exact (t1)) | ((with_reducible apply does_call1); exact rfl; exact rfl; exact rfl; exact (s1))))
  (with_reducible apply ret_ok); (focus (repeat' (first | (with_reducible apply rv_nil) | (with_reducible apply rv_cons) | ((with_reducible apply rv_tmp); exact rfl) | ((with_reducible apply rv_cell); exact rfl; exact rfl; exact tyOk rfl; exact rfl; exact rfl) | ((with_reducible apply rv_rowd); exact rfl; exact rfl; exact tyOk rfl; exact rfl; (first | (with_reducible assumption) | exact rfl | ((try simp only [List.length_map]); first | assumption | omega) | (simp; omega))) | ((with_reducible apply rv_row); exact rfl; exact rfl; exact tyOk rfl; exact rfl; (first | exact Nat.le_of_ble_eq_true rfl | omega | (simp; omega)))))); (first | exact rfl | (focus repeat' (first | exact frzVs_one (frzV_map _ _) | exact rfl | (apply frzVs_cons; (first | exact frzV_map _ _ | exact rfl))))); refine SubD.of_eq ?_
  rfl
theorem codeBack_walk (A : Option Addr) (l : List Raw) (c : Nat) (a : Int) (w : World) (h : RdR w w.heap.size A l) (hc : l.length ≤ c) (_ : c * 40 ≤ 140737488351232) (hr : ∀ r ∈ l, r.ok) (ha : I64 a) (hg : GlOk (Lt w) w) : Calls Tryd.prog 7 #[.slice A l.length c, .int .i64 a] w fun e w' => e = .returned (.bool true) ∧ Below w.heap.size w w' :=
  calls_of_pc (codeBack_pc l a (gi_raws hr)) (rep_cons (rep_raws h hc) (rep_cons (rep_int w a) rfl)) hg
end Go.Proofs.YtclhmdobhlalmaaDoor
