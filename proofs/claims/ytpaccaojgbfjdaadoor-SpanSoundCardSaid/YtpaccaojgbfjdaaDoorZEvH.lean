/-
  chirographkeep's columns of whole numbers, literals and columns as contracts; what a ready-made expression says. No condition.
-/
import Derived.Test.YtpaccaojgbfjdaaDoorZEv5
import Derived.Test.YtpaccaojgbfjdaaDoorZHeapC
import Derived.Test.YtpaccaojgbfjdaaDoorZJoinD
namespace Go.Proofs.YtpaccaojgbfjdaaDoor
set_option linter.unusedSimpArgs false
set_option linter.unusedVariables false
open Go.RowKit
open Go.Lib

theorem one_bad {op : Nat} {v : Vl} (h : (oneF op v).e ≠ 0) : (oneF op v).v = nullV := by
  unfold oneF at *
  repeat' split at h
  all_goals first | exact absurd rfl h | skip
  all_goals simp_all
theorem reckN_bad {op : Nat} {a b : Int} (h : (reckN op a b).e ≠ 0) : (reckN op a b).v = nullV := by
  unfold reckN at *
  repeat' split at h
  all_goals first | exact absurd rfl h | skip
  all_goals simp_all
theorem two_bad {op : Nat} {v w : Vl} (h : (twoF op v w).e ≠ 0) : (twoF op v w).v = nullV := by
  unfold twoF at *
  split at h
  · rename_i h1
    rw [if_pos h1]
    unfold logF at *
    split at h
    · exact absurd rfl h
    · rename_i h2; rw [if_neg h2]
  · rename_i h1
    rw [if_neg h1]
    split at h
    · exact absurd rfl h
    · rename_i h2
      rw [if_neg h2]
      split at h
      · rename_i h3
        rw [if_pos h3]
        unfold catF at *
        split at h
        · rename_i h4
          rw [if_pos h4]
          split at h
          · exact absurd rfl h
          · rename_i h5
            rw [if_neg h5]
            split at h
            · rename_i h6; rw [if_pos h6]
            · exact absurd rfl h
        · rename_i h4; rw [if_neg h4]
      · rename_i h3
        rw [if_neg h3]
        split at h
        · rename_i h4
          rw [if_pos h4]
          unfold reckF at *
          split at h
          · rename_i h5
            rw [if_pos h5]
            split at h
            · exact absurd rfl h
            · rename_i h6
              rw [if_neg h6]
              exact reckN_bad h
          · rename_i h5; rw [if_neg h5]
        · rename_i h4
          rw [if_neg h4]
          unfold compF at *
          split at h
          · exact absurd rfl h
          · rename_i h5
            rw [if_neg h5]
            split at h
            · exact absurd rfl h
            · rename_i h6; rw [if_neg h6]
theorem evF_bad {cols : List Cl} {row : List Vl} : ∀ {x : Ex}, (evF cols row x).e ≠ 0 → (evF cols row x).v = nullV
  | .lit v, h => absurd rfl h
  | .col n, h => by
    unfold evF at *
    split
    · split
      · rename_i h1 _ _ h2
        rw [h1] at h
        dsimp only at h
        rw [h2] at h
        exact absurd rfl h
      · rfl
    · rfl
  | .un op a, h => by
    unfold evF at *
    split at h
    · rename_i h1; rw [if_pos h1]; exact one_bad h
    · rename_i h1; rw [if_neg h1]
  | .bi op a b, h => by
    unfold evF at *
    split at h
    · rename_i h1
      rw [if_pos h1]
      split at h
      · exact absurd rfl h
      · rename_i h2
        rw [if_neg h2]
        split at h
        · rename_i h3; rw [if_pos h3]; exact two_bad h
        · rename_i h3; rw [if_neg h3]
    · rename_i h1; rw [if_neg h1]
theorem evalX_pc (cols : List Cl) (hc : ColsOk cols) (row : List Vl) (hr : FitR row cols) (x : Ex) (hok : x.ok) (hd : x.deep ≤ 7) (hn : x.num ≤ 40) : PC Tryd.prog 24 [.ag x.cs, colsD cols, valsD row] (tvD (evF cols row x)) := by
  have h := eval_pc cols hc row hr x hok hd hn
  have e : (if (evF cols row x).e = 0 then evF cols row x else .bad (evF cols row x).e) = evF cols row x := by
    split
    · rfl
    · rename_i h1
      have := evF_bad h1
      cases hq : evF cols row x with
      | mk v e =>
        rw [hq] at this
        dsimp only at this ⊢
        rw [this]
  rwa [e] at h
abbrev aN : ByteArray := { data := #[97] }
abbrev bN : ByteArray := { data := #[98] }
abbrev abC : List Cl := [⟨aN, 2, false⟩, ⟨bN, 2, false⟩]
theorem abC_ok : ColsOk abC := ⟨by decide, by intro c hc; simp at hc; rcases hc with rfl | rfl <;> decide, by intro c hc; simp at hc; rcases hc with rfl | rfl <;> decide, by
  rw [List.pairwise_cons]
  refine ⟨fun c hc => ?_, List.pairwise_singleton _ _⟩
  simp at hc
  subst hc
  decide⟩
theorem abC_fit (a b : Int) : FitR [numV a, numV b] abC := by
  refine ⟨rfl, fun i v c hv hc => ?_⟩
  match i, hv, hc with
  | 0, hv, hc => cases hv; cases hc; exact ⟨.int a, .inl rfl⟩
  | 1, hv, hc => cases hv; cases hc; exact ⟨.int b, .inl rfl⟩
  | i + 2, hv, _ => cases hv
theorem colA_pc : PC Tryd.prog 48 [] (.ag (Ex.col aN).cs) := by
  refine pc_of_aw Tryd.func48 rfl (by kernel_rfl) mixed (by kernel_rfl) (by rw [Tryd.ntmps48]; exact Nat.le_of_ble_eq_true rfl) Tryd.results48 ?_
  repeat (first | (with_reducible first | apply aw_seq | apply aw_reg | apply rp_nil | apply ae_norm | apply aw_ret | apply re_ret) | ((with_reducible apply rp); ((with_reducible apply does_build); exact tyOk rfl; exact rfl; exact rfl; (focus repeat' (first | exact rfl | refine ⟨_, _, rfl, rfl, Nat.le_of_ble_eq_true rfl, rfl, ?_⟩)); exact rfl)) | ((with_reducible apply rp1); ((with_reducible apply does_alloc); exact tyOk rfl; exact rfl)) | ((with_reducible apply rpN); ((with_reducible apply does_store_whole); exact tyOk rfl; exact rfl; exact rfl; exact rfl; exact rfl; exact rfl)))
  (with_reducible apply ret_ok); (focus (repeat' (first | (with_reducible apply rv_nil) | (with_reducible apply rv_cons) | ((with_reducible apply rv_rowd); exact rfl; exact rfl; exact tyOk rfl; exact rfl; exact rfl)))); exact rfl
  exact nil_sub _
theorem number_pc (n : Int) : PC Tryd.prog 29 [iD n] (.ag (Ex.lit (numV n)).cs) := by
  refine pc_of_aw Tryd.func29 rfl (by kernel_rfl) mixed (by kernel_rfl) (by rw [Tryd.ntmps29]; exact Nat.le_of_ble_eq_true rfl) Tryd.results29 ?_
  repeat (first | (with_reducible first | apply aw_seq | apply aw_reg | apply rp_nil | apply ae_norm | apply aw_ret | apply re_ret) | ((with_reducible apply rp); first | ((with_reducible apply does_move); (conv => lhs; whnf)) | ((with_reducible apply does_build); exact tyOk rfl; exact rfl; exact rfl; (focus repeat' (first | exact rfl | refine ⟨_, _, rfl, rfl, Nat.le_of_ble_eq_true rfl, rfl, ?_⟩)); exact rfl)) | ((with_reducible apply rp1); ((with_reducible apply does_alloc); exact tyOk rfl; exact rfl)) | ((with_reducible apply rpN); ((with_reducible apply does_store_whole); exact tyOk rfl; exact rfl; exact rfl; exact rfl; exact rfl; exact rfl)))
  (with_reducible apply ret_ok); (focus (repeat' (first | (with_reducible apply rv_nil) | (with_reducible apply rv_cons) | ((with_reducible apply rv_rowd); exact rfl; exact rfl; exact tyOk rfl; exact rfl; exact rfl)))); exact rfl
  exact nil_sub _
theorem nil_fit : FitR [] [] := ⟨rfl, fun i v c hv => by cases hv⟩
theorem nil_cols : ColsOk [] := ⟨by decide, by simp, by simp, List.Pairwise.nil⟩
theorem evalTells_pc : PC Tryd.prog 26 [] (bD true) := by
  have n1 := number_pc 1
  have e1 := (evalX_pc [] nil_cols [] nil_fit (.lit (numV 1)) ⟨.int 1, by decide⟩ (by decide) (by decide)).args (SubDs.cons (SubD.refl _) (fun h => h) (SubDs.cons (SubD.nil 3) (fun h => h) (SubDs.cons (SubD.nil 4) (fun h => h) SubDs.nil)))
  have e1 : PC Tryd.prog 24 [.ag (Ex.lit (numV 1)).cs, .nl, .nl] (.tu [.ag [iD 2, iD 1, qD 0, strD .empty], iD 0]) := e1
  have hc : (Ex.lit (numV 1)).cs = [iD 1, iD 2, iD 1, qD 0, strD .empty, strD .empty, .sl 7 []] := rfl
  rw [hc] at n1 e1
  refine pc_of_aw Tryd.func26 rfl (by kernel_rfl) mixed (by kernel_rfl) (by rw [Tryd.ntmps26]; exact Nat.le_of_ble_eq_true rfl) Tryd.results26 ?_
  repeat (first | (with_reducible first | apply aw_seq | apply aw_reg | apply rp_nil | apply ae_norm | apply aw_ret | apply re_ret) | ((first | (with_reducible apply rp) | ((with_reducible apply rpG); exact rfl; exact gval_t rfl; (focus repeat' (first | exact trivial | exact fun h => h | refine And.intro ?_ ?_)); intro hgd; have hgd0 := hgd; (try simp only [decide_eq_true_eq, Bool.and_eq_true, Bool.not_eq_true', beq_iff_eq] at hgd))); first | ((with_reducible apply does_call'); exact rfl; exact rfl; exact rfl; exact (n1)) | ((with_reducible apply does_call_flat); exact rfl; exact rfl; exact (e1); exact rfl) | ((with_reducible apply does_move); (conv => lhs; whnf)) | ((with_reducible apply does_assign); (conv => lhs; whnf)) | ((with_reducible apply does_and); exact rfl; exact rfl; exact rfl; exact fun h => h) | ((with_reducible apply does_load_row); exact tyOk rfl; exact rfl; exact rfl; exact rfl; exact Nat.le_of_ble_eq_true rfl; exact rfl) | ((with_reducible apply does_eq); exact rfl; exact rfl) | ((with_reducible apply does_eqS); exact rfl; exact rfl; exact tgOk rfl; exact rfl) | ((with_reducible apply does_extract); exact rfl; exact rfl) | ((with_reducible apply does_build); exact tyOk rfl; exact rfl; exact rfl; (focus repeat' (first | exact rfl | refine ⟨_, _, rfl, rfl, Nat.le_of_ble_eq_true rfl, rfl, ?_⟩)); exact rfl)) | ((with_reducible apply rp1); ((with_reducible apply does_alloc); exact tyOk rfl; exact rfl)) | ((with_reducible apply rpN); ((with_reducible apply does_store_whole); exact tyOk rfl; exact rfl; exact rfl; exact rfl; exact rfl; exact rfl)))
  (with_reducible apply ret_ok); (focus (repeat' (first | (with_reducible apply rv_nil) | (with_reducible apply rv_cons) | ((with_reducible apply rv_tmp); exact rfl)))); exact rfl; refine SubD.of_eq ?_
  simp
  rfl
end Go.Proofs.YtpaccaojgbfjdaaDoor

