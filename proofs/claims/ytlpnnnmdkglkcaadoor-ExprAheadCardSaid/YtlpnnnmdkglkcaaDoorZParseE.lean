/-
  expr.Parse of tokens that are an expression. No condition but the sizes and that the tokens may be.
-/
import Derived.Test.YtlpnnnmdkglkcaaDoorZAhead
import Derived.Test.YtlpnnnmdkglkcaaDoorZSameX
namespace Go.Proofs.YtlpnnnmdkglkcaaDoor
set_option linter.unusedSimpArgs false
set_option linter.unusedVariables false
open Go.RowKit

theorem sameE_pc (x : Ex) : PC Tryd.prog 25 [exD x, exD x] (bD true) := by
  have h := sameX_pc x
  rw [exD_eq] at h
  exact h
set_option maxHeartbeats 2000000 in
theorem parse_pc (T : List Tk) (hT : T.length ≤ 100) (hok : ∀ t ∈ T, TkOk t) (x : Ex) (h : ∃ f, rd T f 1 0 = .ok x T.length) (hx : x.ok) (hd : x.deep ≤ 7) (hn : x.num ≤ 40) : PC Tryd.prog 26 [toksD T] (.tu [exD x, iD 0, iD 0]) := by
  have a1 : PC Tryd.prog 24 [toksD T, iD 0] (.tu [exD x, iD T.length, iD 0, iD 0]) := ahead_pc T (by omega) hok 0 T.length (Nat.zero_le _) x h
  have c1 := expr_check x hx hd hn
  rw [exD_eq] at c1
  refine pc_of_aw Tryd.func26 rfl (by kernel_rfl) mixed (by kernel_rfl) (by rw [Tryd.ntmps26]; exact Nat.le_of_ble_eq_true rfl) Tryd.results26 ?_
  repeat (first | ((first | (with_reducible apply rpGT) | (with_reducible apply drGT) | (with_reducible apply rpGTN) | (with_reducible apply drGTN)); exact rfl; (first | exact gval_t rfl | exact gval_f rfl | exact gval_gt rfl | exact gval_gf rfl); (first | exact rfl | assumption | decide); (focus repeat' (first | exact trivial | exact fun h => h | refine And.intro ?_ ?_ | (intro h; (first | exact h | (simp only [Bool.and_eq_true] at h; (first | exact h.1 | exact h.1.1 | exact h.1.1.1 | exact h.2)) | (rw [h]; rfl) | (rw [hgd0, h]; rfl) | simp_all)))); ((first | ((with_reducible apply does_call'); exact rfl; exact rfl; exact rfl; exact (a1)) | ((with_reducible apply does_call_flat); exact rfl; exact rfl; exact (c1); exact rfl) | ((with_reducible apply does_move); (conv => lhs; whnf)) | ((with_reducible apply does_assign); (conv => lhs; whnf)) | ((with_reducible apply does_load_row); exact tyOk rfl; exact rfl; exact rfl; exact rfl; exact Nat.le_of_ble_eq_true rfl; exact rfl) | ((with_reducible apply does_ne); exact rfl; exact rfl) | ((with_reducible apply does_gt); exact rfl; exact rfl) | ((with_reducible apply does_extract); exact rfl; exact rfl) | ((with_reducible apply does_len_map); exact tyOk rfl; exact rfl; exact rfl) | ((with_reducible apply does_alloc); exact tyOk rfl; exact rfl) | ((with_reducible apply does_store_whole); exact tyOk rfl; exact rfl; exact rfl; exact rfl; exact rfl; exact rfl)); (first | exact lapp_nil _ | exact lapp_1 _ _ | exact lapp_2 _ _ _ | exact lapp_3 _ _ _ _))) | (with_reducible first | apply aw_seq | apply aw_reg | apply rp_nil | apply ae_norm | apply aw_ret | apply re_ret | apply aw_skip) | ((with_reducible apply rp); first | ((with_reducible apply does_call'); exact rfl; exact rfl; exact rfl; exact (a1)) | ((with_reducible apply does_call_flat); exact rfl; exact rfl; exact (c1); exact rfl) | ((with_reducible apply does_move); (conv => lhs; whnf)) | ((with_reducible apply does_assign); (conv => lhs; whnf)) | ((with_reducible apply does_load_row); exact tyOk rfl; exact rfl; exact rfl; exact rfl; exact Nat.le_of_ble_eq_true rfl; exact rfl) | ((with_reducible apply does_ne); exact rfl; exact rfl) | ((with_reducible apply does_gt); exact rfl; exact rfl) | ((with_reducible apply does_extract); exact rfl; exact rfl) | ((with_reducible apply does_len_map); exact tyOk rfl; exact rfl; exact rfl)) | ((with_reducible apply rp1); ((with_reducible apply does_alloc); exact tyOk rfl; exact rfl)) | ((with_reducible apply rpN); ((with_reducible apply does_store_whole); exact tyOk rfl; exact rfl; exact rfl; exact rfl; exact rfl; exact rfl)) | ((with_reducible apply aw_cond); exact rfl; (focus (intro hd; (first | (cases hd; done) | (exfalso; simp at hd; done) | (exfalso; simp at hd; omega)))); (intro hd; clear hd)))
  (with_reducible apply ret_ok); (focus (repeat' (first | (with_reducible apply rv_nil) | (with_reducible apply rv_cons) | ((with_reducible apply rv_tmp); exact rfl) | ((with_reducible apply rv_rowd); exact rfl; exact rfl; exact tyOk rfl; exact rfl; exact rfl)))); exact rfl; refine SubD.of_eq ?_
  rfl
theorem lit_tok {v : Vl} (h : Gd v) (h0 : 0 ≤ v.n) : TkOk (litT v) := by
  cases h with
  | null => exact nullW_ok
  | bool n hn => rcases hn with rfl | rfl; exact falseW_ok; exact trueW_ok
  | int n => exact .num n h0
  | real b h1 h2 h3 => exact .hex b h1 h2 h3
  | text t h1 h2 => exact .quote t h1 h2
theorem wrap_toks {op k : Nat} {l : List Tk} (h : ∀ t ∈ l, TkOk t) : ∀ t ∈ wrapT op k l, TkOk t := by
  unfold wrapT
  split
  · intro t ht
    rcases List.mem_cons.1 ht with rfl | ht
    · exact lpT_ok
    · rcases List.mem_append.1 ht with ht | ht
      · exact h t ht
      · rw [List.mem_singleton] at ht
        subst ht
        exact rpT_ok
  · exact h
theorem shwB_toks : ∀ x : Ex, x.ok → ∀ t ∈ shwB x, TkOk t
  | .lit v, hx => by
    intro t ht
    have ht : t = litT v := by simpa [shwB] using ht
    subst ht
    exact lit_tok hx.1 hx.2
  | .col n, hx => by
    intro t ht
    have ht : t = ⟨1, n, 0, 0⟩ := by simpa [shwB] using ht
    subst ht
    exact .name n hx
  | .un op a, hx => by
    have ih := fun k => wrap_toks (op := a.op) (k := k) (shwB_toks a hx.2)
    have hop : un1 op := hx.1
    intro t ht
    rcases hop with rfl | rfl | rfl | rfl
    · have ht : t ∈ mnT :: wrapT a.op 8 (shwB a) := ht
      rcases List.mem_cons.1 ht with rfl | ht
      · exact mnT_ok
      · exact ih _ t ht
    · have ht : t ∈ notW :: wrapT a.op 3 (shwB a) := ht
      rcases List.mem_cons.1 ht with rfl | ht
      · exact notW_ok
      · exact ih _ t ht
    · have ht : t ∈ wrapT a.op 5 (shwB a) ++ [isW, nullW] := ht
      rcases List.mem_append.1 ht with ht | ht
      · exact ih _ t ht
      · simp only [List.mem_cons, List.not_mem_nil, or_false] at ht
        rcases ht with rfl | rfl
        · exact isW_ok
        · exact nullW_ok
    · have ht : t ∈ lenW :: lpT :: (wrapT a.op 1 (shwB a) ++ [rpT]) := ht
      rcases List.mem_cons.1 ht with rfl | ht
      · exact lenW_ok
      · rcases List.mem_cons.1 ht with rfl | ht
        · exact lpT_ok
        · rcases List.mem_append.1 ht with ht | ht
          · exact ih _ t ht
          · rw [List.mem_singleton] at ht
            subst ht
            exact rpT_ok
  | .bi op a b, hx => by
    have iha := fun k => wrap_toks (op := a.op) (k := k) (shwB_toks a hx.2.1)
    have ihb := fun k => wrap_toks (op := b.op) (k := k) (shwB_toks b hx.2.2)
    have hop : bi2 op := hx.1
    intro t ht
    by_cases h20 : op = 20
    · subst h20
      have ht : t ∈ coaW :: lpT :: (wrapT a.op 1 (shwB a) ++ cmT :: (wrapT b.op 1 (shwB b) ++ [rpT])) := ht
      rcases List.mem_cons.1 ht with rfl | ht
      · exact coaW_ok
      · rcases List.mem_cons.1 ht with rfl | ht
        · exact lpT_ok
        · rcases List.mem_append.1 ht with ht | ht
          · exact iha _ t ht
          · rcases List.mem_cons.1 ht with rfl | ht
            · exact cmT_ok
            · rcases List.mem_append.1 ht with ht | ht
              · exact ihb _ t ht
              · rw [List.mem_singleton] at ht
                subst ht
                exact rpT_ok
    · unfold shwB at ht
      rw [if_neg h20] at ht
      rcases List.mem_append.1 ht with ht | ht
      · exact iha _ t ht
      · rcases List.mem_cons.1 ht with rfl | ht
        · exact mark_ok op hop h20
        · exact ihb _ t ht
theorem here_self (T : List Tk) : Here T 0 T := fun n hn => by rw [Nat.zero_add]
/-- An expression is read as it was shown. -/
theorem read_shown (x : Ex) (hx : x.ok) : ∃ f, rd (shw x 1) f 1 0 = .ok x (shw x 1).length := by
  obtain ⟨f0, h⟩ := (shown x hx).1 1 (shw x 1) 0 (Nat.le_refl 1) (by decide) (here_self _) (Stop.end (by omega))
  exact ⟨f0, by rw [h f0 (Nat.le_refl _), Nat.zero_add]⟩
end Go.Proofs.YtlpnnnmdkglkcaaDoor

