/-
  eval.Eval as a contract. No condition but that the expression, the columns and the row may be.
-/
import Derived.Test.YtpaccaojgbfjdaaDoorZEv4
import Derived.Test.YtpaccaojgbfjdaaDoorZEv5R
set_option linter.unusedSimpArgs false
set_option linter.unusedVariables false
namespace Go.Proofs.YtpaccaojgbfjdaaDoor
open Go.RowKit
open Go.Lib

set_option maxHeartbeats 2000000 in
theorem eval_pc (cols : List Cl) (hc : ColsOk cols) (row : List Vl) (hr : FitR row cols) (x : Ex) (hok : x.ok) (hd : x.deep ≤ 7) (hn : x.num ≤ 40) : PC Tryd.prog 24 [.ag x.cs, qAY cols, qBz row] (tvD (if (evF cols row x).e = 0 then evF cols row x else .bad (evF cols row x).e)) := by
  have e1 := qE0 x hok hd hn
  have r1 := qFW row cols hc hr
  have t1 := qDS cols (by have := hc.len; omega) x
  obtain ⟨T, v, f, d0, he, hi, hdd, hp⟩ := eof_pc cols row hr.len (by have := hc.len; have := hr.len; omega) hr.gd x hok
  rw [he] at t1
  clear hok hd hn hc hr he
  generalize evF cols row x = r at *
  obtain ⟨⟨rk, rn, rb, rt⟩, re⟩ := r
  have hxl := x.cs_eq
  generalize x.cs = c at *
  subst hxl
  unfold tvD Vl.cs at *
  dsimp only at *
  by_cases hz : re = 0
  · subst hz
    rw [if_pos rfl]
    refine qAs Tryd.func24 rfl (by kernel_rfl) mixed (by kernel_rfl) (qle (by kernel_rfl)) Tryd.results24 ?_
    repeat (first | (with_reducible first | apply qAj | apply qAh | apply qAi | apply qAg | apply qAu | apply qAy | apply qAm) | ((with_reducible apply rp); first | ((with_reducible apply qAf); exact rfl; exact rfl; exact (e1); exact rfl) | ((with_reducible apply qAf); exact rfl; exact rfl; exact (r1); exact rfl) | ((with_reducible apply qAf); exact rfl; exact rfl; exact (t1); exact rfl) | (exact qBR rfl hi hdd rfl hp) | ((with_reducible apply qAd); (conv => lhs; whnf)) | ((with_reducible apply qAa); (conv => lhs; whnf)) | ((with_reducible apply qAl); exact tyOk rfl; (iterate 3 exact rfl); exact qle rfl; exact rfl) | ((with_reducible apply qAV); exact rfl; exact rfl) | ((with_reducible apply qAv); exact rfl; exact rfl)) | ((with_reducible apply rp1); first | ((with_reducible apply qAn); exact rfl; exact rfl) | ((with_reducible apply qAk); exact tyOk rfl; exact rfl)) | ((with_reducible apply rpN); ((with_reducible apply qAb); exact tyOk rfl; (iterate 5 exact rfl))) | ((with_reducible apply qA9); exact rfl; exact rfl))
    (with_reducible apply qAz); (focus (repeat' (first | (with_reducible apply qAw) | (with_reducible apply qAr) | ((with_reducible apply qAB); exact rfl) | ((with_reducible apply qAA); exact rfl; exact rfl; exact tyOk rfl; exact rfl; exact rfl)))); exact rfl; refine SubD.of_eq ?_
    rfl
  · rw [if_neg hz]
    refine qAs Tryd.func24 rfl (by kernel_rfl) mixed (by kernel_rfl) (qle (by kernel_rfl)) Tryd.results24 ?_
    repeat (first | (with_reducible first | apply qAj | apply qAh | apply qAi | apply qAg | apply qAu | apply qAS | apply qAy | apply qAm) | ((with_reducible apply rp); first | ((with_reducible apply qAf); exact rfl; exact rfl; exact (e1); exact rfl) | ((with_reducible apply qAf); exact rfl; exact rfl; exact (r1); exact rfl) | ((with_reducible apply qAf); exact rfl; exact rfl; exact (t1); exact rfl) | (exact qBR rfl hi hdd rfl hp) | ((with_reducible apply qAd); (conv => lhs; whnf)) | ((with_reducible apply qAa); (conv => lhs; whnf)) | ((with_reducible apply qAl); exact tyOk rfl; (iterate 3 exact rfl); exact qle rfl; exact rfl) | ((with_reducible apply qAV); exact rfl; exact rfl) | ((with_reducible apply qAv); exact rfl; exact rfl) | ((with_reducible apply qAW); exact tyOk rfl; exact rfl; exact rfl)) | ((with_reducible apply rp1); first | ((with_reducible apply qAn); exact rfl; exact rfl) | ((with_reducible apply qAk); exact tyOk rfl; exact rfl)) | ((with_reducible apply rpN); ((with_reducible apply qAb); exact tyOk rfl; (iterate 5 exact rfl))) | ((with_reducible apply qAo); exact rfl; (focus (intro hd; (first | (cases hd; done) | (exfalso; simp at hd; omega)))); (intro hd; clear hd)) | ((with_reducible apply qAo); exact rfl; rotate_left; (focus (intro hd; (first | (cases hd; done) | (exfalso; simp at hd; omega)))); (intro hd; clear hd)))
    (with_reducible apply qAz); (focus (repeat' (first | (with_reducible apply qAw) | (with_reducible apply qAr) | ((with_reducible apply qAB); exact rfl) | ((with_reducible apply qAA); exact rfl; exact rfl; exact tyOk rfl; exact rfl; exact rfl)))); exact rfl; refine SubD.of_eq ?_
    rfl
end Go.Proofs.YtpaccaojgbfjdaaDoor

