/-
  chirograph/table: none, Condition, Holds as contracts. No condition but that the expression, the columns and the row may be.
-/
import Derived.Test.YtpaccaojgbfjdaaDoorZEv5
import Derived.Test.YtpaccaojgbfjdaaDoorZTbF
set_option linter.unusedSimpArgs false
set_option linter.unusedVariables false
namespace Go.Proofs.YtpaccaojgbfjdaaDoor
open Go.RowKit

section
variable {P : Program} {dst : Option Nat} {ty : TypeId} {e : Operand → A} {β : Bx} {T T' : TypeId} {x y : Operand} {k : IntKind} {m n : Int} {b : Bool}
theorem qDN (hd : (m == n) = b) (hx : e x = .d (.sc (.int k m))) (hy : e y = .d (.sc (.int k n))) : Does P dst (.binOp .eql T x y T') ty e β (.d (bD b)) [] [] := by
  subst hd; exact qAt hx hy
theorem qEA (hd : (m != n) = b) (hx : e x = .d (.sc (.int k m))) (hy : e y = .d (.sc (.int k n))) : Does P dst (.binOp .neq T x y T') ty e β (.d (bD b)) [] [] := by
  subst hd; exact qAV hx hy
end
theorem Ex.op_pos {x : Ex} (h : x.ok) : 1 ≤ x.op := by
  cases x with
  | lit v => exact Nat.le_refl _
  | col n => show 1 ≤ 2; omega
  | un op a => have := h.1; unfold un1 at this; show 1 ≤ op; omega
  | bi op a b => have := h.1; unfold bi2 at this; show 1 ≤ op; omega
set_option maxHeartbeats 1000000 in
theorem none_e (x : Ex) (h : x.ok) : PC Tryd.prog 54 [.ag x.cs] (bD false) := by
  have h0 : ((x.op : Int) == 0) = false := beq_eq_false_iff_ne.2 (by have := Ex.op_pos h; omega)
  have hxl := x.cs_eq
  generalize x.cs = c at *
  subst hxl
  refine qAs Tryd.func54 rfl (by kernel_rfl) mixed (by kernel_rfl) (qle (by kernel_rfl)) Tryd.results54 ?_
  repeat (first | (with_reducible first | apply qAj | apply qAh | apply qAi | apply qAg | apply qAu | apply qAy) | ((first | (with_reducible apply rp) | ((with_reducible apply rpG); exact rfl; exact qAZ rfl; (focus repeat' (first | exact trivial | exact fun h => h | refine And.intro ?_ ?_)); intro hgd; have hgd0 := hgd; (try simp only [decide_eq_true_eq, Bool.and_eq_true, Bool.not_eq_true', beq_iff_eq] at hgd))); first | (exact qDN h0 rfl rfl) | ((with_reducible first | apply qAd | apply qAa); (conv => lhs; whnf)) | ((with_reducible first | apply qAQ | apply qAc | apply qAe | apply qAt | apply qA3 | apply qAW) <;> first | ((with_reducible apply tyOk); exact rfl) | exact rfl | exact fun h => h | decide) | ((with_reducible apply qAl); exact tyOk rfl; (iterate 3 exact rfl); exact qle rfl; exact rfl) | ((with_reducible apply qEz); exact rfl; exact rfl) | ((with_reducible apply qCs); exact rfl; exact rfl; exact tgOk rfl; exact rfl)) | ((with_reducible apply rp1); ((with_reducible apply qAn); exact rfl; exact rfl)))
  (with_reducible apply qAz); (focus (repeat' (first | (with_reducible apply qAw) | (with_reducible apply qAr) | ((with_reducible apply qAB); exact rfl)))); exact rfl; refine SubD.of_eq ?_
  rfl
set_option maxHeartbeats 1000000 in
theorem cond_pc (cols : List Cl) (hc : ColsOk cols) (x : Ex) (hok : x.ok) (hd : x.deep ≤ 7) (hn : x.num ≤ 40) (hk : Kd (ofF cols x) 1) : PC Tryd.prog 53 [.ag x.cs, qAY cols] (iD 0) := by
  have n1 := none_e x hok
  have k1 := kOf_pc cols hc x hok hd hn hk.1
  have hxl := x.cs_eq
  have h2 := hk.2
  generalize (ofF cols x).k = kk at *
  generalize x.cs = c at *
  subst hxl
  rcases h2 with rfl | rfl
  · refine qAs Tryd.func53 rfl (by kernel_rfl) mixed (by kernel_rfl) (qle (by kernel_rfl)) Tryd.results53 ?_
    repeat (first | (with_reducible first | apply qAj | apply qAh | apply qAi | apply qAg | apply qAu | apply qAy | apply qAm) | ((first | (with_reducible apply rp) | ((with_reducible apply rpG); exact rfl; exact qAZ rfl; (focus repeat' (first | exact trivial | exact fun h => h | refine And.intro ?_ ?_)); intro hgd; have hgd0 := hgd; (try simp only [decide_eq_true_eq, Bool.and_eq_true, Bool.not_eq_true', beq_iff_eq] at hgd))); first | ((with_reducible apply qAf); exact rfl; exact rfl; (first | exact (n1) | exact (k1)); exact rfl) | ((with_reducible first | apply qAd | apply qAa); (conv => lhs; whnf)) | ((with_reducible first | apply qAQ | apply qAl | apply qAt | apply qAV | apply qAv) <;> first | ((with_reducible apply tyOk); exact rfl) | exact rfl | exact qle rfl | exact fun h => h)) | ((with_reducible apply rp1); ((with_reducible apply qAn); exact rfl; exact rfl)) | ((with_reducible apply qA9); exact rfl; exact rfl))
    (with_reducible apply qAz); (focus (repeat' (first | (with_reducible apply qAw) | (with_reducible apply qAr) | ((with_reducible apply qAB); exact rfl)))); exact rfl; refine SubD.of_eq ?_
    rfl
  · refine qAs Tryd.func53 rfl (by kernel_rfl) mixed (by kernel_rfl) (qle (by kernel_rfl)) Tryd.results53 ?_
    repeat (first | (with_reducible first | apply qAj | apply qAh | apply qAi | apply qAg | apply qAu | apply qAy | apply qAm) | ((first | (with_reducible apply rp) | ((with_reducible apply rpG); exact rfl; exact qAZ rfl; (focus repeat' (first | exact trivial | exact fun h => h | refine And.intro ?_ ?_)); intro hgd; have hgd0 := hgd; (try simp only [decide_eq_true_eq, Bool.and_eq_true, Bool.not_eq_true', beq_iff_eq] at hgd))); first | ((with_reducible apply qAf); exact rfl; exact rfl; (first | exact (n1) | exact (k1)); exact rfl) | ((with_reducible first | apply qAd | apply qAa); (conv => lhs; whnf)) | ((with_reducible first | apply qAQ | apply qAl | apply qAt | apply qAV | apply qAv) <;> first | ((with_reducible apply tyOk); exact rfl) | exact rfl | exact qle rfl | exact fun h => h)) | ((with_reducible apply rp1); ((with_reducible apply qAn); exact rfl; exact rfl)) | ((with_reducible apply qA9); exact rfl; exact rfl))
    (with_reducible apply qAz); (focus (repeat' (first | (with_reducible apply qAw) | (with_reducible apply qAr) | ((with_reducible apply qAB); exact rfl)))); exact rfl; refine SubD.of_eq ?_
    rfl
def holF (cols : List Cl) (row : List Vl) (x : Ex) : Bool := (evF cols row x).e == 0 && (evF cols row x).v.n == 1
set_option maxHeartbeats 1000000 in
theorem holds_pc (cols : List Cl) (hc : ColsOk cols) (x : Ex) (hok : x.ok) (hd : x.deep ≤ 7) (hn : x.num ≤ 40) (hk : Kd (ofF cols x) 1) (row : List Vl) (hr : FitR row cols) : PC Tryd.prog 28 [.ag x.cs, qAY cols, qBz row] (.tu [bD (holF cols row x), iD (evF cols row x).e]) := by
  have n1 := none_e x hok
  have c1 := cond_pc cols hc x hok hd hn hk
  have r1 := qFW row cols hc hr
  have e1 := eval_pc cols hc row hr x hok hd hn
  have hxl := x.cs_eq
  unfold holF
  generalize evF cols row x = t at *
  obtain ⟨⟨vk, vn, vb, vt⟩, te⟩ := t
  dsimp only at *
  generalize x.cs = c at *
  subst hxl
  by_cases h0 : te = 0
  · subst h0
    rw [if_pos rfl] at e1
    refine qAs Tryd.func28 rfl (by kernel_rfl) mixed (by kernel_rfl) (qle (by kernel_rfl)) Tryd.results28 ?_
    repeat (first | (with_reducible first | apply qAj | apply qAh | apply qAi | apply qAg | apply qAu | apply qAy | apply qAm) | ((with_reducible apply rp); first | ((with_reducible apply qAf); exact rfl; exact rfl; exact (n1); exact rfl) | ((with_reducible apply qAf); exact rfl; exact rfl; exact (c1); exact rfl) | ((with_reducible apply qAf); exact rfl; exact rfl; exact (r1); exact rfl) | ((with_reducible apply qAf); exact rfl; exact rfl; exact (e1); exact rfl) | ((with_reducible apply qAd); (conv => lhs; whnf)) | ((with_reducible apply qAa); (conv => lhs; whnf)) | ((with_reducible apply qAc); exact tyOk rfl; exact rfl; exact rfl; decide; exact rfl) | ((with_reducible apply qAe); exact tyOk rfl; (iterate 4 exact rfl)) | ((with_reducible apply qAl); exact tyOk rfl; (iterate 3 exact rfl); exact qle rfl; exact rfl) | ((with_reducible apply qAt); exact rfl; exact rfl) | ((with_reducible apply qAV); exact rfl; exact rfl) | ((with_reducible apply qAv); exact rfl; exact rfl)) | ((with_reducible apply rp1); first | ((with_reducible apply qAn); exact rfl; exact rfl) | ((with_reducible apply qAk); exact tyOk rfl; exact rfl)) | ((with_reducible apply rpN); ((with_reducible apply qAb); exact tyOk rfl; (iterate 5 exact rfl))) | ((with_reducible apply qA9); exact rfl; exact rfl))
    (with_reducible apply qAz); (focus (repeat' (first | (with_reducible apply qAw) | (with_reducible apply qAr) | ((with_reducible apply qAB); exact rfl)))); exact rfl; refine SubD.of_eq ?_
    rfl
  · rw [if_neg h0] at e1
    rw [beq_eq_false_iff_ne.2 h0, Bool.false_and]
    refine qAs Tryd.func28 rfl (by kernel_rfl) mixed (by kernel_rfl) (qle (by kernel_rfl)) Tryd.results28 ?_
    repeat (first | (with_reducible first | apply qAj | apply qAh | apply qAi | apply qAg | apply qAu | apply qAy | apply qAm) | ((with_reducible apply rp); first | ((with_reducible apply qAf); exact rfl; exact rfl; exact (n1); exact rfl) | ((with_reducible apply qAf); exact rfl; exact rfl; exact (c1); exact rfl) | ((with_reducible apply qAf); exact rfl; exact rfl; exact (r1); exact rfl) | ((with_reducible apply qAf); exact rfl; exact rfl; exact (e1); exact rfl) | ((with_reducible apply qAd); (conv => lhs; whnf)) | ((with_reducible apply qAa); (conv => lhs; whnf)) | ((with_reducible apply qAc); exact tyOk rfl; exact rfl; exact rfl; decide; exact rfl) | ((with_reducible apply qAe); exact tyOk rfl; (iterate 4 exact rfl)) | ((with_reducible apply qAl); exact tyOk rfl; (iterate 3 exact rfl); exact qle rfl; exact rfl) | ((with_reducible apply qAt); exact rfl; exact rfl) | ((with_reducible apply qAV); exact rfl; exact rfl) | ((with_reducible apply qAv); exact rfl; exact rfl)) | ((with_reducible apply rp1); first | ((with_reducible apply qAn); exact rfl; exact rfl) | ((with_reducible apply qAk); exact tyOk rfl; exact rfl)) | ((with_reducible apply rpN); ((with_reducible apply qAb); exact tyOk rfl; (iterate 5 exact rfl))) | ((with_reducible apply qA9); exact rfl; exact rfl))
    (with_reducible apply qAz); (focus (repeat' (first | (with_reducible apply qAw) | (with_reducible apply qAr) | ((with_reducible apply qAB); exact rfl)))); exact rfl; refine SubD.of_eq ?_
    rfl
end Go.Proofs.YtpaccaojgbfjdaaDoor

