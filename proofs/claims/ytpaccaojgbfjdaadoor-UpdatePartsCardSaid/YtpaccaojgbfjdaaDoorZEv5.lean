/-
  eval.Eval as a contract. No condition but that the expression, the columns and the row may be.
-/
import Derived.Test.YtpaccaojgbfjdaaDoorZEv4
import Derived.Test.YtpaccaojgbfjdaaDoorZEv5R
set_option linter.unusedSimpArgs false
set_option linter.unusedVariables false
namespace Go.Proofs.YtpaccaojgbfjdaaDoor
open Go.RowKit
open Go.Lib

set_option maxHeartbeats 2000000 in
theorem eval_pc (cols : List Cl) (hc : ColsOk cols) (row : List Vl) (hr : FitR row cols) (x : Ex) (hok : x.ok) (hd : x.deep ≤ 7) (hn : x.num ≤ 40) : PC Tryd.prog 24 [.ag x.cs, qAW cols, qBx row] (tvD (if (evF cols row x).e = 0 then evF cols row x else .bad (evF cols row x).e)) := by
  have e1 := expr_check x hok hd hn
  have r1 := qFs row cols hc hr
  have t1 := qDL cols (by have := hc.len; omega) x
  obtain ⟨T, v, f, d0, he, hi, hdd, hp⟩ := eof_pc cols row hr.len (by have := hc.len; have := hr.len; omega) hr.gd x hok
  rw [he] at t1
  clear hok hd hn hc hr he
  generalize evF cols row x = r at *
  obtain ⟨⟨rk, rn, rb, rt⟩, re⟩ := r
  have hxl := x.cs_eq
  generalize x.cs = c at *
  subst hxl
  unfold tvD Vl.cs at *
  dsimp only at *
  by_cases hz : re = 0
  · subst hz
    rw [if_pos rfl]
    refine qAs Tryd.func24 rfl (by kernel_rfl) mixed (by kernel_rfl) (qle (by kernel_rfl)) Tryd.results24 ?_
    repeat (first | (with_reducible first | apply qAj | apply qAi | apply qAh | apply qAf | apply qAu | apply qAz | apply qAm) | ((with_reducible apply rp); first | ((with_reducible apply qAg); eq_refl; eq_refl; exact (e1); eq_refl) | ((with_reducible apply qAg); eq_refl; eq_refl; exact (r1); eq_refl) | ((with_reducible apply qAg); eq_refl; eq_refl; exact (t1); eq_refl) | (exact qBV rfl hi hdd rfl hp) | ((with_reducible apply qAd); (conv => lhs; whnf)) | ((with_reducible apply qAa); (conv => lhs; whnf)) | ((with_reducible apply qAl); exact tyOk rfl; (iterate 3 eq_refl); exact qle rfl; eq_refl) | ((with_reducible apply qAU); eq_refl; eq_refl) | ((with_reducible apply qAt); eq_refl; eq_refl)) | ((with_reducible apply rp1); first | ((with_reducible apply qAp); eq_refl; eq_refl) | ((with_reducible apply qAk); exact tyOk rfl; eq_refl)) | ((with_reducible apply rpN); ((with_reducible apply qAb); exact tyOk rfl; (iterate 5 eq_refl))) | ((with_reducible apply qA6); eq_refl; eq_refl))
    (with_reducible apply qAA); (focus (repeat' (first | (with_reducible apply qAv) | (with_reducible apply qAq) | ((with_reducible apply qAD); eq_refl) | ((with_reducible apply qAy); eq_refl; eq_refl; exact tyOk rfl; eq_refl; eq_refl)))); eq_refl; refine SubD.of_eq ?_
    rfl
  · rw [if_neg hz]
    refine qAs Tryd.func24 rfl (by kernel_rfl) mixed (by kernel_rfl) (qle (by kernel_rfl)) Tryd.results24 ?_
    repeat (first | (with_reducible first | apply qAj | apply qAi | apply qAh | apply qAf | apply qAu | apply qAS | apply qAz | apply qAm) | ((with_reducible apply rp); first | ((with_reducible apply qAg); eq_refl; eq_refl; exact (e1); eq_refl) | ((with_reducible apply qAg); eq_refl; eq_refl; exact (r1); eq_refl) | ((with_reducible apply qAg); eq_refl; eq_refl; exact (t1); eq_refl) | (exact qBV rfl hi hdd rfl hp) | ((with_reducible apply qAd); (conv => lhs; whnf)) | ((with_reducible apply qAa); (conv => lhs; whnf)) | ((with_reducible apply qAl); exact tyOk rfl; (iterate 3 eq_refl); exact qle rfl; eq_refl) | ((with_reducible apply qAU); eq_refl; eq_refl) | ((with_reducible apply qAt); eq_refl; eq_refl) | ((with_reducible apply qAV); exact tyOk rfl; eq_refl; eq_refl)) | ((with_reducible apply rp1); first | ((with_reducible apply qAp); eq_refl; eq_refl) | ((with_reducible apply qAk); exact tyOk rfl; eq_refl)) | ((with_reducible apply rpN); ((with_reducible apply qAb); exact tyOk rfl; (iterate 5 eq_refl))) | ((with_reducible apply qAn); eq_refl; (focus (intro hd; (first | (cases hd; done) | (exfalso; simp at hd; omega)))); (intro hd; clear hd)) | ((with_reducible apply qAn); eq_refl; rotate_left; (focus (intro hd; (first | (cases hd; done) | (exfalso; simp at hd; omega)))); (intro hd; clear hd)))
    (with_reducible apply qAA); (focus (repeat' (first | (with_reducible apply qAv) | (with_reducible apply qAq) | ((with_reducible apply qAD); eq_refl) | ((with_reducible apply qAy); eq_refl; eq_refl; exact tyOk rfl; eq_refl; eq_refl)))); eq_refl; refine SubD.of_eq ?_
    rfl
end Go.Proofs.YtpaccaojgbfjdaaDoor

