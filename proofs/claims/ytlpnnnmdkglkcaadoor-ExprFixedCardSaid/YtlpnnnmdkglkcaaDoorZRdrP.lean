/-
  The reader of package expr, where it fails: fail, want. No condition but the sizes and that the tokens may be.
-/
import Derived.Test.YtlpnnnmdkglkcaaDoorZRdr
import Derived.Test.YtlpnnnmdkglkcaaDoorZPlPanD
set_option linter.unusedSimpArgs false
set_option linter.unusedVariables false
namespace Go.Proofs.YtlpnnnmdkglkcaaDoor
open Go.RowKit

abbrev qFw (p e : Nat) : List PanicEntry := [{ v := .iface 89 (.agg #[.int .i64 p, .int .i64 e]), recovered := false }]
section
variable {P : Program} {dst : Option Nat} {ty : TypeId} {e : Operand → A} {β : Bx} {x : Operand}
theorem qC9 {T : TypeId} {p q : Int} (hT : ∀ (u : Value) (w : World), (Instr.makeInterface T u).run P w = .ok (.iface T u) w) (hx : e x = .d (.ag [iD p, iD q])) :
    Does P dst (.makeInterface T x) ty e β (.d (.sc (.iface T (.agg #[.int .i64 p, .int .i64 q])))) [] [] := by
  intro C γ hag ρ I w hm a hops o hop hd hty K Q hK
  have hv : a.eval x = .agg #[.int .i64 p, .int .i64 q] := by
    obtain ⟨us, h1, h2⟩ : RepD I w (.ag [iD p, iD q]) (a.eval x) := by
      have := (hops x (by simp [Op.operands])).2
      rw [hx] at this
      exact this
    obtain ⟨u1, l1, q1, _, r1, u2, l2, rfl, _, r2, rfl⟩ := h2
    obtain ⟨us⟩ := us
    have q1 : us = [u1, u2] := q1
    rw [h1, q1, rep_sc r1, rep_sc r2]
  unfold Oper.wp
  have hr : (execOp a.eval o).run P w = .ok (.value (.iface T (.agg #[.int .i64 p, .int .i64 q]))) w := by
    unfold execOp
    rw [hop]
    simp only [hv]
    simp [hT, go_sem]
  rw [hr, Oper.upon_value, hd]
  exact hK _ ρ I w hm (Ext.refl _ _ _ _) trivial ⟨rfl, rfl⟩
end
def plainT (P : Program) (T : TypeId) : Bool := match P.underlying T with
  | some (.interface _) => false
  | some _ => true
  | none => false
theorem run_mkIface {P : Program} {T : TypeId} (h : plainT P T = true) (u : Value) (w : World) : (Instr.makeInterface T u).run P w = .ok (.iface T u) w := by
  unfold plainT at h
  cases hu : P.underlying T with
  | none => rw [hu] at h; cases h
  | some d =>
    rw [hu] at h
    unfold Instr.makeInterface
    rw [Sem.run_bind, run_underlying hu w, Result.andThen_ok]
    cases d <;> first | (cases h; done) | rfl
theorem mkStop (u : Value) (w : World) : (Instr.makeInterface 89 u).run Tryd.prog w = .ok (.iface 89 u) w := run_mkIface (by kernel_rfl) u w
set_option maxHeartbeats 1000000 in
theorem fail_pn (T : List Tk) (hT : T.length ≤ 1000) (i : Nat) (hi : i ≤ T.length) : PN Tryd.prog 128 [.px 1000 0] (rdrB T i) [] (qFw i (if T.length ≤ i then 4 else 3)) := by
  by_cases hge : T.length ≤ i
  · rw [if_pos hge]
    have hll : decide ((i : Int) ≥ (T.length : Nat)) = true := decide_eq_true (by omega)
    refine qBj Tryd.func128 rfl (by kernel_rfl) mixed (by kernel_rfl) (qle (by kernel_rfl)) ?_
    repeat (first | (refine qBL (pre := [_, _, _, _, _, _]) (op := (.panic _)) (post := []) mixed rfl ?_) | ((first | (with_reducible apply rpGT) | (with_reducible apply drGT) | (with_reducible apply qAP) | (with_reducible apply qAQ)); eq_refl; (first | exact qAy rfl | exact qAx rfl | exact qAv rfl | exact qAw rfl); (first | eq_refl | assumption | decide); (focus repeat' (first | exact trivial | exact id | apply And.intro | (intro h; (first | exact h | (simp only [Bool.and_eq_true] at h; (first | exact h.1 | exact h.1.1 | exact h.1.1.1 | exact h.2)) | (rw [h]; rfl) | (rw [zh, h]; rfl) | simp_all)))); ((first | (exact qBw hll rfl rfl) | (exact qC9 mkStop rfl) | ((with_reducible apply qAe); (conv => lhs; whnf)) | ((with_reducible first | apply qAg | apply qAi | apply qAz | apply qAV) <;> first | ((with_reducible apply tyOk); eq_refl) | eq_refl | decide) | ((with_reducible apply qAG); exact tyOk rfl; eq_refl; eq_refl; (focus repeat' (first | eq_refl | refine ⟨_, _, rfl, rfl, qle rfl, rfl, ?_⟩)); eq_refl)); (first | exact qAb _ | exact qAk _ _ | exact qAj _ _ _ | exact qAl _ _ _ _))) | (with_reducible first | apply qAt | apply qAr | apply qAn | apply qBH) | ((with_reducible apply qBT); (first | kernel_rfl | eq_refl)) | ((with_reducible first | apply rp | apply dr); first | (exact qBw hll rfl rfl) | (exact qC9 mkStop rfl) | ((with_reducible apply qAe); (conv => lhs; whnf)) | ((with_reducible first | apply qAg | apply qAi | apply qAz | apply qAV) <;> first | ((with_reducible apply tyOk); eq_refl) | eq_refl | decide) | ((with_reducible apply qAG); exact tyOk rfl; eq_refl; eq_refl; (focus repeat' (first | eq_refl | refine ⟨_, _, rfl, rfl, qle rfl, rfl, ?_⟩)); eq_refl)) | ((with_reducible apply qBs); eq_refl; eq_refl))
    exact ⟨_, _, _, pans_panic rfl, rfl⟩
  · rw [if_neg hge]
    have hll : decide ((i : Int) ≥ (T.length : Nat)) = false := decide_eq_false (by omega)
    refine qBj Tryd.func128 rfl (by kernel_rfl) mixed (by kernel_rfl) (qle (by kernel_rfl)) ?_
    repeat (first | (refine qBL (pre := [_, _, _, _, _, _]) (op := (.panic _)) (post := []) mixed rfl ?_) | ((first | (with_reducible apply rpGT) | (with_reducible apply drGT) | (with_reducible apply qAP) | (with_reducible apply qAQ)); eq_refl; (first | exact qAy rfl | exact qAx rfl | exact qAv rfl | exact qAw rfl); (first | eq_refl | assumption | decide); (focus repeat' (first | exact trivial | exact id | apply And.intro | (intro h; (first | exact h | (simp only [Bool.and_eq_true] at h; (first | exact h.1 | exact h.1.1 | exact h.1.1.1 | exact h.2)) | (rw [h]; rfl) | (rw [zh, h]; rfl) | simp_all)))); ((first | (exact qBw hll rfl rfl) | (exact qC9 mkStop rfl) | ((with_reducible apply qAe); (conv => lhs; whnf)) | ((with_reducible first | apply qAg | apply qAi | apply qAz | apply qAV) <;> first | ((with_reducible apply tyOk); eq_refl) | eq_refl | decide) | ((with_reducible apply qAG); exact tyOk rfl; eq_refl; eq_refl; (focus repeat' (first | eq_refl | refine ⟨_, _, rfl, rfl, qle rfl, rfl, ?_⟩)); eq_refl)); (first | exact qAb _ | exact qAk _ _ | exact qAj _ _ _ | exact qAl _ _ _ _))) | (with_reducible first | apply qAt | apply qAr | apply qAn | apply qBH) | ((with_reducible apply qBT); (first | kernel_rfl | eq_refl)) | ((with_reducible first | apply rp | apply dr); first | (exact qBw hll rfl rfl) | (exact qC9 mkStop rfl) | ((with_reducible apply qAe); (conv => lhs; whnf)) | ((with_reducible first | apply qAg | apply qAi | apply qAz | apply qAV) <;> first | ((with_reducible apply tyOk); eq_refl) | eq_refl | decide) | ((with_reducible apply qAG); exact tyOk rfl; eq_refl; eq_refl; (focus repeat' (first | eq_refl | refine ⟨_, _, rfl, rfl, qle rfl, rfl, ?_⟩)); eq_refl)) | ((with_reducible apply qBr); eq_refl; eq_refl))
    exact ⟨_, _, _, pans_panic rfl, rfl⟩
set_option maxHeartbeats 1000000 in
theorem qDV (T : List Tk) (hT : T.length ≤ 1000) (i : Nat) (hi : i ≤ T.length) (t : Tk) (ht : TkOk t) (hb : T[i]? ≠ some t) :
    PN Tryd.prog 120 [.px 1000 0, .d (.ag t.cs)] (rdrB T i) [] (qFw i (if T.length ≤ i then 4 else 3)) := by
  have p1 := qBD T hT i hi t ht hb
  have n1 := fail_pn T hT i hi
  obtain ⟨tk, tt, tn, tb⟩ := t
  have p1 : PX Tryd.prog 89 [.px 1000 0, .d (.ag [iD tk, strD tt, iD tn, qD tb])] (rdrB T i) [] (bD false) (rdrB T i) [] := p1
  show PN Tryd.prog 120 [.px 1000 0, .d (.ag [iD tk, strD tt, iD tn, qD tb])] (rdrB T i) [] _
  refine qBj Tryd.func120 rfl (by kernel_rfl) mixed (by kernel_rfl) (qle (by kernel_rfl)) ?_
  repeat (first | (refine qBL (pre := [_]) (op := (.call ⟨.value (.func 128), _, _⟩)) (post := []) mixed rfl ?_) | ((first | (with_reducible apply rpGT) | (with_reducible apply drGT) | (with_reducible apply qAP) | (with_reducible apply qAQ)); eq_refl; (first | exact qAy rfl | exact qAx rfl | exact qAv rfl | exact qAw rfl); (first | eq_refl | assumption | decide); (focus repeat' (first | exact trivial | exact id | apply And.intro | (intro h; (first | exact h | (simp only [Bool.and_eq_true] at h; (first | exact h.1 | exact h.1.1 | exact h.1.1.1 | exact h.2)) | (rw [h]; rfl) | (rw [zh, h]; rfl) | simp_all)))); (first | ((refine qAc [] [] (ups := [(1000, .var 87 [.d (qAo T), .d (iD i)])]) rfl (p1) rfl (kpX rfl) rfl (insX rfl) (insQ rfl) rfl rfl rfl rfl rfl (insX rfl) rfl rfl); (first | exact qAb _ | exact qAk _ _ | exact qAj _ _ _ | exact qAl _ _ _ _)) | ((first | ((with_reducible apply qAe); (conv => lhs; whnf)) | ((with_reducible first | apply qAm | apply qA9 | apply qAp) <;> first | ((with_reducible apply tyOk); eq_refl) | eq_refl | exact qle rfl)); (first | exact qAb _ | exact qAk _ _ | exact qAj _ _ _ | exact qAl _ _ _ _)))) | (with_reducible first | apply qAt | apply qAs | apply qAr | apply qAn) | ((with_reducible apply rp); first | ((with_reducible apply qAe); (conv => lhs; whnf)) | ((with_reducible apply qAm); exact tyOk rfl; (iterate 3 eq_refl); exact qle rfl; eq_refl) | ((with_reducible apply qA9); eq_refl)) | ((with_reducible apply rp1); ((with_reducible apply qAp); eq_refl; eq_refl)) | ((with_reducible apply rpL); (refine qAc [] [] (ups := [(1000, .var 87 [.d (qAo T), .d (iD i)])]) rfl (p1) rfl (kpX rfl) rfl (insX rfl) (insQ rfl) rfl rfl rfl rfl rfl (insX rfl) rfl rfl); exact qAb _) | ((with_reducible apply qBs); eq_refl; eq_refl))
  refine ⟨_, _, _, qBe [] rfl (n1) rfl ?_ rfl ?_ ?_ rfl rfl rfl rfl, ?_⟩; (focus repeat' (first | exact trivial | eq_refl | apply And.intro)); (iterate 2 (focus repeat' (first | exact trivial | exact qBb rfl | apply And.intro))); exact rfl
end Go.Proofs.YtlpnnnmdkglkcaaDoor

