/-
  chirograph/table: none, Condition, Holds as contracts. No condition but that the expression, the columns and the row may be.
-/
import Derived.Test.YtpaccaojgbfjdaaDoorZEv5
import Derived.Test.YtpaccaojgbfjdaaDoorZT
set_option linter.unusedSimpArgs false
set_option linter.unusedVariables false
namespace Go.Proofs.YtpaccaojgbfjdaaDoor
open Go.RowKit

section
variable {P : Program} {dst : Option Nat} {ty : TypeId} {e : Operand → A} {β : Bx} {T T' : TypeId} {x y : Operand} {k : IntKind} {m n : Int} {b : Bool}
theorem qDd (hd : (m == n) = b) (hx : e x = .d (.sc (.int k m))) (hy : e y = .d (.sc (.int k n))) : Does P dst (.binOp .eql T x y T') ty e β (.d (bD b)) [] [] := by
  subst hd; exact qAr hx hy
theorem qEm (hd : (m != n) = b) (hx : e x = .d (.sc (.int k m))) (hy : e y = .d (.sc (.int k n))) : Does P dst (.binOp .neq T x y T') ty e β (.d (bD b)) [] [] := by
  subst hd; exact qAU hx hy
end
theorem Ex.op_pos {x : Ex} (h : x.ok) : 1 ≤ x.op := by
  cases x with
  | lit v => exact Nat.le_refl _
  | col n => show 1 ≤ 2; omega
  | un op a => have := h.1; unfold un1 at this; show 1 ≤ op; omega
  | bi op a b => have := h.1; unfold bi2 at this; show 1 ≤ op; omega
set_option maxHeartbeats 1000000 in
theorem none_e (x : Ex) (h : x.ok) : PC Tryd.prog 54 [.ag x.cs] (bD false) := by
  have h0 : ((x.op : Int) == 0) = false := beq_eq_false_iff_ne.2 (by have := Ex.op_pos h; omega)
  have hxl := x.cs_eq
  generalize x.cs = c at *
  subst hxl
  refine qAs Tryd.func54 rfl (by kernel_rfl) mixed (by kernel_rfl) (qle (by kernel_rfl)) Tryd.results54 ?_
  repeat (first | (with_reducible first | apply qAj | apply qAi | apply qAh | apply qAf | apply qAu | apply qAz) | ((first | (with_reducible apply rp) | ((with_reducible apply rpG); eq_refl; exact qAT rfl; (focus repeat' (first | exact trivial | exact id | apply And.intro)); intro zg; have zh := zg; (try simp only [zs1, zs2, zs3, zs4] at zg))); first | (exact qDd h0 rfl rfl) | ((with_reducible first | apply qAd | apply qAa); (conv => lhs; whnf)) | ((with_reducible first | apply qAM | apply qAc | apply qAe | apply qAr | apply qA7 | apply qAV) <;> first | ((with_reducible apply tyOk); eq_refl) | eq_refl | exact id | decide) | ((with_reducible apply qAl); exact tyOk rfl; (iterate 3 eq_refl); exact qle rfl; eq_refl) | ((with_reducible apply qDV); eq_refl; eq_refl) | ((with_reducible apply qCk); eq_refl; eq_refl; exact tgOk rfl; eq_refl)) | ((with_reducible apply rp1); ((with_reducible apply qAp); eq_refl; eq_refl)))
  (with_reducible apply qAA); (focus (repeat' (first | (with_reducible apply qAv) | (with_reducible apply qAq) | ((with_reducible apply qAD); eq_refl)))); eq_refl; refine SubD.of_eq ?_
  rfl
set_option maxHeartbeats 1000000 in
theorem cond_pc (cols : List Cl) (hc : ColsOk cols) (x : Ex) (hok : x.ok) (hd : x.deep ≤ 7) (hn : x.num ≤ 40) (hk : Kd (ofF cols x) 1) : PC Tryd.prog 53 [.ag x.cs, qAW cols] (iD 0) := by
  have n1 := none_e x hok
  have k1 := kOf_pc cols hc x hok hd hn hk.1
  have hxl := x.cs_eq
  have h2 := hk.2
  generalize (ofF cols x).k = kk at *
  generalize x.cs = c at *
  subst hxl
  rcases h2 with rfl | rfl
  · refine qAs Tryd.func53 rfl (by kernel_rfl) mixed (by kernel_rfl) (qle (by kernel_rfl)) Tryd.results53 ?_
    repeat (first | (with_reducible first | apply qAj | apply qAi | apply qAh | apply qAf | apply qAu | apply qAz | apply qAm) | ((first | (with_reducible apply rp) | ((with_reducible apply rpG); eq_refl; exact qAT rfl; (focus repeat' (first | exact trivial | exact id | apply And.intro)); intro zg; have zh := zg; (try simp only [zs1, zs2, zs3, zs4] at zg))); first | ((with_reducible apply qAg); eq_refl; eq_refl; (first | exact (n1) | exact (k1)); eq_refl) | ((with_reducible first | apply qAd | apply qAa); (conv => lhs; whnf)) | ((with_reducible first | apply qAM | apply qAl | apply qAr | apply qAU | apply qAt) <;> first | ((with_reducible apply tyOk); eq_refl) | eq_refl | exact qle rfl | exact id)) | ((with_reducible apply rp1); ((with_reducible apply qAp); eq_refl; eq_refl)) | ((with_reducible apply qA6); eq_refl; eq_refl))
    (with_reducible apply qAA); (focus (repeat' (first | (with_reducible apply qAv) | (with_reducible apply qAq) | ((with_reducible apply qAD); eq_refl)))); eq_refl; refine SubD.of_eq ?_
    rfl
  · refine qAs Tryd.func53 rfl (by kernel_rfl) mixed (by kernel_rfl) (qle (by kernel_rfl)) Tryd.results53 ?_
    repeat (first | (with_reducible first | apply qAj | apply qAi | apply qAh | apply qAf | apply qAu | apply qAz | apply qAm) | ((first | (with_reducible apply rp) | ((with_reducible apply rpG); eq_refl; exact qAT rfl; (focus repeat' (first | exact trivial | exact id | apply And.intro)); intro zg; have zh := zg; (try simp only [zs1, zs2, zs3, zs4] at zg))); first | ((with_reducible apply qAg); eq_refl; eq_refl; (first | exact (n1) | exact (k1)); eq_refl) | ((with_reducible first | apply qAd | apply qAa); (conv => lhs; whnf)) | ((with_reducible first | apply qAM | apply qAl | apply qAr | apply qAU | apply qAt) <;> first | ((with_reducible apply tyOk); eq_refl) | eq_refl | exact qle rfl | exact id)) | ((with_reducible apply rp1); ((with_reducible apply qAp); eq_refl; eq_refl)) | ((with_reducible apply qA6); eq_refl; eq_refl))
    (with_reducible apply qAA); (focus (repeat' (first | (with_reducible apply qAv) | (with_reducible apply qAq) | ((with_reducible apply qAD); eq_refl)))); eq_refl; refine SubD.of_eq ?_
    rfl
def holF (cols : List Cl) (row : List Vl) (x : Ex) : Bool := (evF cols row x).e == 0 && (evF cols row x).v.n == 1
set_option maxHeartbeats 1000000 in
theorem holds_pc (cols : List Cl) (hc : ColsOk cols) (x : Ex) (hok : x.ok) (hd : x.deep ≤ 7) (hn : x.num ≤ 40) (hk : Kd (ofF cols x) 1) (row : List Vl) (hr : FitR row cols) : PC Tryd.prog 28 [.ag x.cs, qAW cols, qBx row] (.tu [bD (holF cols row x), iD (evF cols row x).e]) := by
  have n1 := none_e x hok
  have c1 := cond_pc cols hc x hok hd hn hk
  have r1 := qFs row cols hc hr
  have e1 := eval_pc cols hc row hr x hok hd hn
  have hxl := x.cs_eq
  unfold holF
  generalize evF cols row x = t at *
  obtain ⟨⟨vk, vn, vb, vt⟩, te⟩ := t
  dsimp only at *
  generalize x.cs = c at *
  subst hxl
  by_cases h0 : te = 0
  · subst h0
    rw [if_pos rfl] at e1
    refine qAs Tryd.func28 rfl (by kernel_rfl) mixed (by kernel_rfl) (qle (by kernel_rfl)) Tryd.results28 ?_
    repeat (first | (with_reducible first | apply qAj | apply qAi | apply qAh | apply qAf | apply qAu | apply qAz | apply qAm) | ((with_reducible apply rp); first | ((with_reducible apply qAg); eq_refl; eq_refl; exact (n1); eq_refl) | ((with_reducible apply qAg); eq_refl; eq_refl; exact (c1); eq_refl) | ((with_reducible apply qAg); eq_refl; eq_refl; exact (r1); eq_refl) | ((with_reducible apply qAg); eq_refl; eq_refl; exact (e1); eq_refl) | ((with_reducible apply qAd); (conv => lhs; whnf)) | ((with_reducible apply qAa); (conv => lhs; whnf)) | ((with_reducible apply qAc); exact tyOk rfl; eq_refl; eq_refl; decide; eq_refl) | ((with_reducible apply qAe); exact tyOk rfl; (iterate 4 eq_refl)) | ((with_reducible apply qAl); exact tyOk rfl; (iterate 3 eq_refl); exact qle rfl; eq_refl) | ((with_reducible apply qAr); eq_refl; eq_refl) | ((with_reducible apply qAU); eq_refl; eq_refl) | ((with_reducible apply qAt); eq_refl; eq_refl)) | ((with_reducible apply rp1); first | ((with_reducible apply qAp); eq_refl; eq_refl) | ((with_reducible apply qAk); exact tyOk rfl; eq_refl)) | ((with_reducible apply rpN); ((with_reducible apply qAb); exact tyOk rfl; (iterate 5 eq_refl))) | ((with_reducible apply qA6); eq_refl; eq_refl))
    (with_reducible apply qAA); (focus (repeat' (first | (with_reducible apply qAv) | (with_reducible apply qAq) | ((with_reducible apply qAD); eq_refl)))); eq_refl; refine SubD.of_eq ?_
    rfl
  · rw [if_neg h0] at e1
    rw [beq_eq_false_iff_ne.2 h0, Bool.false_and]
    refine qAs Tryd.func28 rfl (by kernel_rfl) mixed (by kernel_rfl) (qle (by kernel_rfl)) Tryd.results28 ?_
    repeat (first | (with_reducible first | apply qAj | apply qAi | apply qAh | apply qAf | apply qAu | apply qAz | apply qAm) | ((with_reducible apply rp); first | ((with_reducible apply qAg); eq_refl; eq_refl; exact (n1); eq_refl) | ((with_reducible apply qAg); eq_refl; eq_refl; exact (c1); eq_refl) | ((with_reducible apply qAg); eq_refl; eq_refl; exact (r1); eq_refl) | ((with_reducible apply qAg); eq_refl; eq_refl; exact (e1); eq_refl) | ((with_reducible apply qAd); (conv => lhs; whnf)) | ((with_reducible apply qAa); (conv => lhs; whnf)) | ((with_reducible apply qAc); exact tyOk rfl; eq_refl; eq_refl; decide; eq_refl) | ((with_reducible apply qAe); exact tyOk rfl; (iterate 4 eq_refl)) | ((with_reducible apply qAl); exact tyOk rfl; (iterate 3 eq_refl); exact qle rfl; eq_refl) | ((with_reducible apply qAr); eq_refl; eq_refl) | ((with_reducible apply qAU); eq_refl; eq_refl) | ((with_reducible apply qAt); eq_refl; eq_refl)) | ((with_reducible apply rp1); first | ((with_reducible apply qAp); eq_refl; eq_refl) | ((with_reducible apply qAk); exact tyOk rfl; eq_refl)) | ((with_reducible apply rpN); ((with_reducible apply qAb); exact tyOk rfl; (iterate 5 eq_refl))) | ((with_reducible apply qA6); eq_refl; eq_refl))
    (with_reducible apply qAA); (focus (repeat' (first | (with_reducible apply qAv) | (with_reducible apply qAq) | ((with_reducible apply qAD); eq_refl)))); eq_refl; refine SubD.of_eq ?_
    rfl
end Go.Proofs.YtpaccaojgbfjdaaDoor

