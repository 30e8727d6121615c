/-
  CodeApart: a row that is cut is short; a row and one byte more is none. No condition but the sizes.
-/
import Derived.Test.YtclhmdobhlalmaaDoorZCodeBack
import Derived.Test.YtclhmdobhlalmaaDoorZPick
namespace Go.Proofs.YtclhmdobhlalmaaDoor
set_option linter.unusedSimpArgs false
set_option linter.unusedVariables false
open Go.RowKit

section
variable {P : Program} {dst : Option Nat} {ty : TypeId} {e : Operand → A} {β : Bx} {x y : Operand}
theorem does_max_nat {ts : Array TypeId} {a b : Nat} {p q : Int} (hx : e x = .d (iD p)) (hy : e y = .d (iD q)) (hp : p = a) (hq : q = b) : Does P dst (.call { callee := .builtin .max, args := #[x, y], argTypes := ts }) ty e β (.d (iD ((max a b : Nat) : Int))) [] [] :=
  Does.of_run fun C γ _ ρ I w _ ac hops o ho _ => by
    have h1 := (hops x (by simp [Op.operands, Call.operands])).2
    have h2 := (hops y (by simp [Op.operands, Call.operands])).2
    rw [hx] at h1
    rw [hy] at h2
    have h1 := repA_sc h1
    have h2 := repA_sc h2
    have e1 : (if p < q then q else p) = ((max a b : Nat) : Int) := by split <;> omega
    refine ⟨.int .i64 (if p < q then q else p), ?_, trivial, by rw [e1], rfl⟩
    simp [execOp, ho, resolve, invoke, builtin, Sem.run_bind, h1, h2, Builtin.max_, Builtin.max2]
end
set_option maxHeartbeats 1000000 in
theorem codeApart_pc (l : List Raw) (d n : Int) (h : ∀ v ∈ valsG l, Gi v) : PC Tryd.prog 9 [rawsD l, iD d, iD n] (bD true) := by
  have v1 := valsG_pc l
  have hl := valsG_len l
  generalize valsG l = a at *
  have e1 := Encode_pc a d hl fun v hv => (h v hv).1
  have n1 := (encF_len d 0 a fun v hv => (h v hv).1).1
  have t1 := codeTells_pc
  obtain ⟨u, hu, p1⟩ := picked_nat n (max (encF d 0 a).length 1) (by omega) (by omega)
  have d2 := Decode_pc (encF d 0 a ++ [7]) a.length d (by rw [List.length_append]; simp; omega) hl (decF_more d h 7)
  have hm : byD (encF d 0 a ++ [7]) = .sl 1 ((encF d 0 a).map (fun c => [u8D c]) ++ [[u8D 7]]) := by show D.sl 1 _ = _; rw [List.map_append]; rfl
  rw [hm] at d2
  obtain ⟨⟨f, r⟩, hR⟩ : ∃ R, decF d a.length ((encF d 0 a).take (min u (encF d 0 a).length)) = R := ⟨_, rfl⟩
  have d1 := Decode_pc ((encF d 0 a).take (min u (encF d 0 a).length)) a.length d (by rw [List.length_take]; omega) hl hR
  have hf : ((((encF d 0 a).length : Nat) : Int) == 0 || (f : Int) == 4) = true := by
    by_cases hz : (encF d 0 a).length = 0
    · rw [hz]; rfl
    · have hk : min u (encF d 0 a).length = u := by omega
      rw [hk, decF_cut d h (by omega)] at hR
      injection hR with hR _
      subst hR
      exact Bool.or_true _
  obtain ⟨c, hc⟩ : ∃ c, ((encF d 0 a).take (min u (encF d 0 a).length)).drop 0 = c := ⟨_, rfl⟩
  rw [show (encF d 0 a).take (min u (encF d 0 a).length) = c from hc] at d1
  clear h hm hR
  generalize encF d 0 a = b at *
  refine pc_of_aw Tryd.func9 rfl (by kernel_rfl) mixed (by kernel_rfl) (by rw [Tryd.ntmps9]; exact Nat.le_of_ble_eq_true rfl) Tryd.results9 ?_
  repeat (first | (with_reducible apply aw_seq) | (with_reducible apply aw_reg) | (with_reducible apply rp_nil) | (with_reducible apply ae_norm) | (with_reducible apply aw_ret) | (with_reducible apply re_ret) | ((with_reducible apply be_other); exact rfl) | ((with_reducible apply dr_nil); first | kernel_rfl | exact rfl) | ((first | (with_reducible apply rp) | (with_reducible apply dr) | ((first | (with_reducible apply rpG) | (with_reducible apply drG)); exact rfl; (first | exact gval_t rfl | exact gval_f rfl | exact gval_gt rfl | exact gval_gf rfl); (focus repeat' (first | exact trivial | exact fun h => h | refine And.intro ?_ ?_ | (intro h; first | exact h | (simp only [Bool.and_eq_true] at h; first | exact h.1 | exact h.1.1 | exact h.1.1.1 | exact h.2) | (rw [h]; rfl) | (rw [hgd0, h]; rfl) | simp_all))); intro hgd; have hgd0 := hgd; (try simp only [decide_eq_true_eq, Bool.and_eq_true, Bool.not_eq_true', beq_iff_eq] at hgd))); first | ((with_reducible apply does_call_flat); exact rfl; exact rfl; exact (v1); exact rfl) | ((with_reducible apply does_call'); exact rfl; exact rfl; exact rfl; exact (v1)) | ((with_reducible apply does_call_flat); exact rfl; exact rfl; exact (e1); exact rfl) | ((with_reducible apply does_call'); exact rfl; exact rfl; exact rfl; exact (e1)) | (exact does_max_nat (a := b.length) (b := 1) rfl rfl rfl rfl) | ((with_reducible apply does_call_flat); exact rfl; exact rfl; exact (p1); exact rfl) | ((with_reducible apply does_call'); exact rfl; exact rfl; exact rfl; exact (p1)) | (exact does_min_nat (a := u) (b := b.length) rfl rfl rfl rfl) | (exact does_slice_bl (l := 0) (h := min u b.length) (tyOk rfl) rfl (tyOk rfl) rfl rfl rfl ⟨_, _, rfl, rfl⟩ (by omega) (by omega) hc) | ((with_reducible apply does_call_flat); exact rfl; exact rfl; exact (d1); exact rfl) | ((with_reducible apply does_call'); exact rfl; exact rfl; exact rfl; exact (d1)) | ((with_reducible apply does_call_flat); exact rfl; exact rfl; exact (d2); exact rfl) | ((with_reducible apply does_call'); exact rfl; exact rfl; exact rfl; exact (d2)) | ((with_reducible apply does_call_flat); exact rfl; exact rfl; exact (t1); exact rfl) | ((with_reducible apply does_call'); exact rfl; exact rfl; exact rfl; exact (t1)) | ((with_reducible apply does_move); (conv => lhs; whnf)) | ((with_reducible apply does_assign); (conv => lhs; whnf)) | ((with_reducible apply does_and); exact rfl; exact rfl; exact rfl; (first | exact trivial | exact fun h => h | (intro h; first | exact h | (simp only [Bool.and_eq_true] at h; first | exact h.1 | exact h.1.1 | exact h.1.1.1 | exact h.2) | (rw [h]; rfl) | (rw [hgd0, h]; rfl) | simp_all))) | ((with_reducible apply does_or); exact rfl; exact rfl; exact rfl; (first | exact trivial | exact fun h => h | (intro h; first | exact h | (simp only [Bool.and_eq_true] at h; first | exact h.1 | exact h.1.1 | exact h.1.1.1 | exact h.2) | (rw [h]; rfl) | (rw [hgd0, h]; rfl) | simp_all))) | ((with_reducible apply does_eq); exact rfl; exact rfl) | ((with_reducible apply does_extract); exact rfl; exact rfl) | ((with_reducible apply does_len_map); exact tyOk rfl; exact rfl; exact rfl)) | ((first | (with_reducible apply rp1) | (with_reducible apply dr1)); first | ((with_reducible apply does_call1); exact rfl; exact rfl; exact rfl; exact (v1)) | ((with_reducible apply does_call1); exact rfl; exact rfl; exact rfl; exact (e1)) | (exact does_max_nat (a := b.length) (b := 1) rfl rfl rfl rfl) | ((with_reducible apply does_call1); exact rfl; exact rfl; exact rfl; exact (p1)) | (exact does_min_nat (a := u) (b := b.length) rfl rfl rfl rfl) | (exact does_slice_bl (l := 0) (h := min u b.length) (tyOk rfl) rfl (tyOk rfl) rfl rfl rfl ⟨_, _, rfl, rfl⟩ (by omega) (by omega) hc) | ((with_reducible apply does_call1); exact rfl; exact rfl; exact rfl; exact (d1)) | ((with_reducible apply does_call1); exact rfl; exact rfl; exact rfl; exact (d2)) | ((with_reducible apply does_call1); exact rfl; exact rfl; exact rfl; exact (t1)) | ((with_reducible apply does_buildSlice); exact tyOk rfl; exact rfl; exact tyOk rfl; exact rfl; exact rfl; (focus repeat' (first | exact trivial | refine And.intro rfl (And.intro rfl ?_))); decide; decide; exact rfl) | ((with_reducible apply does_append_nil); exact tyOk rfl; exact rfl; exact tyOk rfl; exact rfl; exact rfl; decide; (first | omega | (dsimp only; omega) | (dsimp only; simp only [List.length_map, List.length_append, List.length_cons, List.length_nil] at *; omega) | (simp only [List.length_map, List.length_append, List.length_cons, List.length_nil] at *; omega) | (simp; omega)); (first | omega | (dsimp only; omega) | (dsimp only; simp only [List.length_map, List.length_append, List.length_cons, List.length_nil] at *; omega) | (simp only [List.length_map, List.length_append, List.length_cons, List.length_nil] at *; omega) | (simp; omega)); exact rfl)) | ((first | (with_reducible apply rp2) | (with_reducible apply dr2)); first | (exact does_max_nat (a := b.length) (b := 1) rfl rfl rfl rfl) | (exact does_min_nat (a := u) (b := b.length) rfl rfl rfl rfl) | (exact does_slice_bl (l := 0) (h := min u b.length) (tyOk rfl) rfl (tyOk rfl) rfl rfl rfl ⟨_, _, rfl, rfl⟩ (by omega) (by omega) hc) | ((with_reducible apply does_append_own); exact tyOk rfl; exact rfl; exact tyOk rfl; exact rfl; exact rfl; exact rfl; decide; (first | omega | (dsimp only; omega) | (dsimp only; simp only [List.length_map, List.length_append, List.length_cons, List.length_nil] at *; omega) | (simp only [List.length_map, List.length_append, List.length_cons, List.length_nil] at *; omega) | (simp; omega)); (first | omega | (dsimp only; omega) | (dsimp only; simp only [List.length_map, List.length_append, List.length_cons, List.length_nil] at *; omega) | (simp only [List.length_map, List.length_append, List.length_cons, List.length_nil] at *; omega) | (simp; omega)); exact rfl)) | ((first | (with_reducible apply rpN) | (with_reducible apply drN)); first | (exact does_max_nat (a := b.length) (b := 1) rfl rfl rfl rfl) | (exact does_min_nat (a := u) (b := b.length) rfl rfl rfl rfl) | (exact does_slice_bl (l := 0) (h := min u b.length) (tyOk rfl) rfl (tyOk rfl) rfl rfl rfl ⟨_, _, rfl, rfl⟩ (by omega) (by omega) hc)) | ((first | (with_reducible apply rpGP) | (with_reducible apply drGP)); exact rfl; (first | exact gval_t rfl | exact gval_f rfl | exact gval_gt rfl | exact gval_gf rfl); (focus repeat' (first | exact trivial | exact fun h => h | refine And.intro ?_ ?_ | (intro h; first | exact h | (simp only [Bool.and_eq_true] at h; first | exact h.1 | exact h.1.1 | exact h.1.1.1 | exact h.2) | (rw [h]; rfl) | (rw [hgd0, h]; rfl) | simp_all))); (intro hgd; have hgd0 := hgd; (try simp only [decide_eq_true_eq, Bool.and_eq_true, Bool.not_eq_true', beq_iff_eq] at hgd); first | ((with_reducible apply does_or); exact rfl; exact rfl; exact rfl; (first | exact trivial | exact fun h => h | (intro h; first | exact h | (simp only [Bool.and_eq_true] at h; first | exact h.1 | exact h.1.1 | exact h.1.1.1 | exact h.2) | (rw [h]; rfl) | (rw [hgd0, h]; rfl) | simp_all))) | ((with_reducible apply does_and); exact rfl; exact rfl; exact rfl; (first | exact trivial | exact fun h => h | (intro h; first | exact h | (simp only [Bool.and_eq_true] at h; first | exact h.1 | exact h.1.1 | exact h.1.1.1 | exact h.2) | (rw [h]; rfl) | (rw [hgd0, h]; rfl) | simp_all))))))
  (with_reducible apply ret_ok); (focus (repeat' (first | (with_reducible apply rv_nil) | (with_reducible apply rv_cons) | ((with_reducible apply rv_tmp); exact rfl) | ((with_reducible apply rv_cell); exact rfl; exact rfl; exact tyOk rfl; exact rfl; exact rfl) | ((with_reducible apply rv_rowd); exact rfl; exact rfl; exact tyOk rfl; exact rfl; (first | (with_reducible assumption) | exact rfl | ((try simp only [List.length_map]); first | assumption | omega) | (simp; omega))) | ((with_reducible apply rv_row); exact rfl; exact rfl; exact tyOk rfl; exact rfl; (first | exact Nat.le_of_ble_eq_true rfl | omega | (simp; omega)))))); (first | exact rfl | (focus repeat' (first | exact frzVs_one (frzV_map _ _) | exact rfl | (apply frzVs_cons; (first | exact frzV_map _ _ | exact rfl))))); refine SubD.of_eq ?_
  have hf2 : ((b.length : Int) == 0 || (f : Int) == 4) = true := hf
  rw [hf2]
  rfl
theorem codeApart_walk (A : Option Addr) (l : List Raw) (c : Nat) (a b : Int) (w : World) (h : RdR w w.heap.size A l) (hc : l.length ≤ c) (_ : c * 40 ≤ 140737488351232) (hr : ∀ r ∈ l, r.ok) (ha : I64 a) (hb : I64 b) (hg : GlOk (Lt w) w) : Calls Tryd.prog 9 #[.slice A l.length c, .int .i64 a, .int .i64 b] w fun e w' => e = .returned (.bool true) ∧ Below w.heap.size w w' :=
  calls_of_pc (codeApart_pc l a b (gi_raws hr)) (rep_cons (rep_raws h hc) (rep_cons (rep_int w a) (rep_cons (rep_int w b) rfl))) hg
end Go.Proofs.YtclhmdobhlalmaaDoor
