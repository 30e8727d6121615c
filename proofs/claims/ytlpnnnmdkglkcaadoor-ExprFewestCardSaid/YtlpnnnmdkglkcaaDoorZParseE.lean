/-
  expr.Parse of tokens that are an expression. No condition but the sizes and that the tokens may be.
-/
import Derived.Test.YtlpnnnmdkglkcaaDoorZAhead
import Derived.Test.YtlpnnnmdkglkcaaDoorZSameX
set_option linter.unusedSimpArgs false
set_option linter.unusedVariables false
namespace Go.Proofs.YtlpnnnmdkglkcaaDoor
open Go.RowKit

set_option maxHeartbeats 2000000 in
theorem parse_pc (T : List Tk) (hT : T.length ≤ 100) (hok : ∀ t ∈ T, TkOk t) (x : Ex) (h : ∃ f, rd T f 1 0 = .ok x T.length) (hx : x.ok) (hd : x.deep ≤ 7) (hn : x.num ≤ 40) : PC Tryd.prog 26 [qAs T] (.tu [exD x, iD 0, iD 0]) := by
  have a1 : PC Tryd.prog 24 [qAs T, iD 0] (.tu [exD x, iD T.length, iD 0, iD 0]) := ahead_pc T (by omega) hok 0 T.length (Nat.zero_le _) x h
  have c1 := expr_check x hx hd hn
  rw [qEn] at c1
  refine qAS Tryd.func26 rfl (by kernel_rfl) mixed (by kernel_rfl) (qle (by kernel_rfl)) Tryd.results26 ?_
  repeat (first | ((first | (with_reducible apply rpGT) | (with_reducible apply drGT) | (with_reducible apply qAR) | (with_reducible apply qAQ)); eq_refl; (first | exact qAE rfl | exact qAu rfl | exact qAy rfl | exact qAw rfl); (first | eq_refl | assumption | decide); (focus repeat' (first | exact trivial | exact id | apply And.intro | (intro h; (first | exact h | (simp only [Bool.and_eq_true] at h; (first | exact h.1 | exact h.1.1 | exact h.1.1.1 | exact h.2)) | (rw [h]; rfl) | (rw [zh, h]; rfl) | simp_all)))); ((first | ((with_reducible apply qAH); (iterate 3 eq_refl); exact (a1)) | ((with_reducible apply qAc); eq_refl; eq_refl; exact (c1); eq_refl) | ((with_reducible first | apply qAe | apply qAd); (conv => lhs; whnf)) | ((with_reducible first | apply qAn | apply qBa | apply qBm | apply qA3 | apply qAB | apply qAh | apply qAf) <;> first | ((with_reducible apply tyOk); eq_refl) | eq_refl | exact qle rfl)); (first | exact qAb _ | exact qAm _ _ | exact qAk _ _ _ | exact qAl _ _ _ _))) | (with_reducible first | apply qAr | apply qAq | apply qAp | apply qAj | apply qAK | apply qA9 | apply qAF) | ((with_reducible apply rp); first | ((with_reducible apply qAH); (iterate 3 eq_refl); exact (a1)) | ((with_reducible apply qAc); eq_refl; eq_refl; exact (c1); eq_refl) | ((with_reducible apply qAe); (conv => lhs; whnf)) | ((with_reducible apply qAd); (conv => lhs; whnf)) | ((with_reducible apply qAn); exact tyOk rfl; (iterate 3 eq_refl); exact qle rfl; eq_refl) | ((with_reducible apply qBa); eq_refl; eq_refl) | ((with_reducible apply qBm); eq_refl; eq_refl) | ((with_reducible apply qA3); eq_refl; eq_refl) | ((with_reducible apply qAB); exact tyOk rfl; eq_refl; eq_refl)) | ((with_reducible apply rp1); ((with_reducible apply qAh); exact tyOk rfl; eq_refl)) | ((with_reducible apply rpN); ((with_reducible apply qAf); exact tyOk rfl; (iterate 5 eq_refl))) | ((with_reducible apply qAx); eq_refl; (focus (intro hd; (first | (cases hd; done) | (exfalso; simp at hd; done) | (exfalso; simp at hd; omega)))); (intro hd; clear hd)))
  (with_reducible apply qA8); (focus (repeat' (first | (with_reducible apply qAJ) | (with_reducible apply qAD) | ((with_reducible apply qBb); eq_refl) | ((with_reducible apply qAZ); eq_refl; eq_refl; exact tyOk rfl; eq_refl; eq_refl)))); eq_refl; refine SubD.of_eq ?_
  rfl
theorem lit_tok {v : Vl} (h : Gd v) (h0 : 0 ≤ v.n) : TkOk (litT v) := by
  cases h with
  | null => exact qDu
  | bool n hn => rcases hn with rfl | rfl; exact qEp; exact qFm
  | int n => exact .num n h0
  | real b h1 h2 h3 => exact .hex b h1 h2 h3
  | text t h1 h2 => exact .quote t h1 h2
theorem qFW {op k : Nat} {l : List Tk} (h : ∀ t ∈ l, TkOk t) : ∀ t ∈ qCf op k l, TkOk t := by
  unfold qCf
  split
  · intro t ht
    rcases List.mem_cons.1 ht with rfl | ht
    · exact qDm
    · rcases List.mem_append.1 ht with ht | ht
      · exact h t ht
      · rw [List.mem_singleton] at ht
        subst ht
        exact qEL
  · exact h
theorem qEl : ∀ x : Ex, x.ok → ∀ t ∈ shwB x, TkOk t
  | .lit v, hx => by
    intro t ht
    have ht : t = litT v := by simpa [shwB] using ht
    subst ht
    exact lit_tok hx.1 hx.2
  | .col n, hx => by
    intro t ht
    have ht : t = ⟨1, n, 0, 0⟩ := by simpa [shwB] using ht
    subst ht
    exact .name n hx
  | .un op a, hx => by
    have ih := fun k => qFW (op := a.op) (k := k) (qEl a hx.2)
    have hop : un1 op := hx.1
    intro t ht
    rcases hop with rfl | rfl | rfl | rfl
    · have ht : t ∈ mnT :: qCf a.op 8 (shwB a) := ht
      rcases List.mem_cons.1 ht with rfl | ht
      · exact mnT_ok
      · exact ih _ t ht
    · have ht : t ∈ notW :: qCf a.op 3 (shwB a) := ht
      rcases List.mem_cons.1 ht with rfl | ht
      · exact qFI
      · exact ih _ t ht
    · have ht : t ∈ qCf a.op 5 (shwB a) ++ [isW, qDt] := ht
      rcases List.mem_append.1 ht with ht | ht
      · exact ih _ t ht
      · simp only [List.mem_cons, List.not_mem_nil, or_false] at ht
        rcases ht with rfl | rfl
        · exact isW_ok
        · exact qDu
    · have ht : t ∈ lenW :: lpT :: (qCf a.op 1 (shwB a) ++ [rpT]) := ht
      rcases List.mem_cons.1 ht with rfl | ht
      · exact qFt
      · rcases List.mem_cons.1 ht with rfl | ht
        · exact qDm
        · rcases List.mem_append.1 ht with ht | ht
          · exact ih _ t ht
          · rw [List.mem_singleton] at ht
            subst ht
            exact qEL
  | .bi op a b, hx => by
    have iha := fun k => qFW (op := a.op) (k := k) (qEl a hx.2.1)
    have ihb := fun k => qFW (op := b.op) (k := k) (qEl b hx.2.2)
    have hop : bi2 op := hx.1
    intro t ht
    by_cases h20 : op = 20
    · subst h20
      have ht : t ∈ coaW :: lpT :: (qCf a.op 1 (shwB a) ++ cmT :: (qCf b.op 1 (shwB b) ++ [rpT])) := ht
      rcases List.mem_cons.1 ht with rfl | ht
      · exact qFB
      · rcases List.mem_cons.1 ht with rfl | ht
        · exact qDm
        · rcases List.mem_append.1 ht with ht | ht
          · exact iha _ t ht
          · rcases List.mem_cons.1 ht with rfl | ht
            · exact cmT_ok
            · rcases List.mem_append.1 ht with ht | ht
              · exact ihb _ t ht
              · rw [List.mem_singleton] at ht
                subst ht
                exact qEL
    · unfold shwB at ht
      rw [if_neg h20] at ht
      rcases List.mem_append.1 ht with ht | ht
      · exact iha _ t ht
      · rcases List.mem_cons.1 ht with rfl | ht
        · exact qDv op hop h20
        · exact ihb _ t ht
end Go.Proofs.YtlpnnnmdkglkcaaDoor

