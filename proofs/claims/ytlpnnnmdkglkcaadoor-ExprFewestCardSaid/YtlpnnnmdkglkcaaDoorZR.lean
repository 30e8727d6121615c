/-
  The reader of package expr, where it fails: fail, want. No condition but the sizes and that the tokens may be.
-/
import Derived.Test.YtlpnnnmdkglkcaaDoorZRdr
import Derived.Test.YtlpnnnmdkglkcaaDoorZK
import Derived.Test.YtlpnnnmdkglkcaaDoorZRdl
set_option linter.unusedSimpArgs false
set_option linter.unusedVariables false
namespace Go.Proofs.YtlpnnnmdkglkcaaDoor
open Go.RowKit

abbrev qFr (p e : Nat) : List PanicEntry := [{ v := .iface 89 (.agg #[.int .i64 p, .int .i64 e]), recovered := false }]
section
variable {P : Program} {dst : Option Nat} {ty : TypeId} {e : Operand → A} {β : Bx} {x : Operand}
theorem qDM {T : TypeId} {p q : Int} (hT : ∀ (u : Value) (w : World), (Instr.makeInterface T u).run P w = .ok (.iface T u) w) (hx : e x = .d (.ag [iD p, iD q])) :
    Does P dst (.makeInterface T x) ty e β (.d (.sc (.iface T (.agg #[.int .i64 p, .int .i64 q])))) [] [] := by
  intro C γ hag ρ I w hm a hops o hop hd hty K Q hK
  have hv : a.eval x = .agg #[.int .i64 p, .int .i64 q] := by
    obtain ⟨us, h1, h2⟩ : RepD I w (.ag [iD p, iD q]) (a.eval x) := by
      have := (hops x (by simp [Op.operands])).2
      rw [hx] at this
      exact this
    obtain ⟨u1, l1, q1, _, r1, u2, l2, rfl, _, r2, rfl⟩ := h2
    obtain ⟨us⟩ := us
    have q1 : us = [u1, u2] := q1
    rw [h1, q1, rep_sc r1, rep_sc r2]
  unfold Oper.wp
  have hr : (execOp a.eval o).run P w = .ok (.value (.iface T (.agg #[.int .i64 p, .int .i64 q]))) w := by
    unfold execOp
    rw [hop]
    simp only [hv]
    simp [hT, go_sem]
  rw [hr, Oper.upon_value, hd]
  exact hK _ ρ I w hm (Ext.refl _ _ _ _) trivial ⟨rfl, rfl⟩
end
def plainT (P : Program) (T : TypeId) : Bool := match P.underlying T with
  | some (.interface _) => false
  | some _ => true
  | none => false
theorem run_mkIface {P : Program} {T : TypeId} (h : plainT P T = true) (u : Value) (w : World) : (Instr.makeInterface T u).run P w = .ok (.iface T u) w := by
  unfold plainT at h
  cases hu : P.underlying T with
  | none => rw [hu] at h; cases h
  | some d =>
    rw [hu] at h
    unfold Instr.makeInterface
    rw [Sem.run_bind, run_underlying hu w, Result.andThen_ok]
    cases d <;> first | (cases h; done) | rfl
theorem mkStop (u : Value) (w : World) : (Instr.makeInterface 89 u).run Tryd.prog w = .ok (.iface 89 u) w := run_mkIface (by kernel_rfl) u w
set_option maxHeartbeats 1000000 in
theorem fail_pn (T : List Tk) (hT : T.length ≤ 1000) (i : Nat) (hi : i ≤ T.length) : PN Tryd.prog 128 [.px 1000 0] (rdrB T i) [] (qFr i (if T.length ≤ i then 4 else 3)) := by
  by_cases hge : T.length ≤ i
  · rw [if_pos hge]
    have hll : decide ((i : Int) ≥ (T.length : Nat)) = true := decide_eq_true (by omega)
    refine qBt Tryd.func128 rfl (by kernel_rfl) mixed (by kernel_rfl) (qle (by kernel_rfl)) ?_
    repeat (first | (refine qB2 (pre := [_, _, _, _, _, _]) (op := (.panic _)) (post := []) mixed rfl ?_) | ((first | (with_reducible apply rpGT) | (with_reducible apply drGT) | (with_reducible apply qAR) | (with_reducible apply qAQ)); eq_refl; (first | exact qAE rfl | exact qAu rfl | exact qAy rfl | exact qAw rfl); (first | eq_refl | assumption | decide); (focus repeat' (first | exact trivial | exact id | apply And.intro | (intro h; (first | exact h | (simp only [Bool.and_eq_true] at h; (first | exact h.1 | exact h.1.1 | exact h.1.1.1 | exact h.2)) | (rw [h]; rfl) | (rw [zh, h]; rfl) | simp_all)))); ((first | (exact qBL hll rfl rfl) | (exact qDM mkStop rfl) | ((with_reducible apply qAe); (conv => lhs; whnf)) | ((with_reducible first | apply qAg | apply qAi | apply qAB | apply qAY) <;> first | ((with_reducible apply tyOk); eq_refl) | eq_refl | decide) | ((with_reducible apply qAG); exact tyOk rfl; eq_refl; eq_refl; (focus repeat' (first | eq_refl | refine ⟨_, _, rfl, rfl, qle rfl, rfl, ?_⟩)); eq_refl)); (first | exact qAb _ | exact qAm _ _ | exact qAk _ _ _ | exact qAl _ _ _ _))) | (with_reducible first | apply qAr | apply qAp | apply qAj | apply qBD) | ((with_reducible apply qBQ); (first | kernel_rfl | eq_refl)) | ((with_reducible first | apply rp | apply dr); first | (exact qBL hll rfl rfl) | (exact qDM mkStop rfl) | ((with_reducible apply qAe); (conv => lhs; whnf)) | ((with_reducible first | apply qAg | apply qAi | apply qAB | apply qAY) <;> first | ((with_reducible apply tyOk); eq_refl) | eq_refl | decide) | ((with_reducible apply qAG); exact tyOk rfl; eq_refl; eq_refl; (focus repeat' (first | eq_refl | refine ⟨_, _, rfl, rfl, qle rfl, rfl, ?_⟩)); eq_refl)) | ((with_reducible apply qBK); eq_refl; eq_refl))
    exact ⟨_, _, _, pans_panic rfl, rfl⟩
  · rw [if_neg hge]
    have hll : decide ((i : Int) ≥ (T.length : Nat)) = false := decide_eq_false (by omega)
    refine qBt Tryd.func128 rfl (by kernel_rfl) mixed (by kernel_rfl) (qle (by kernel_rfl)) ?_
    repeat (first | (refine qB2 (pre := [_, _, _, _, _, _]) (op := (.panic _)) (post := []) mixed rfl ?_) | ((first | (with_reducible apply rpGT) | (with_reducible apply drGT) | (with_reducible apply qAR) | (with_reducible apply qAQ)); eq_refl; (first | exact qAE rfl | exact qAu rfl | exact qAy rfl | exact qAw rfl); (first | eq_refl | assumption | decide); (focus repeat' (first | exact trivial | exact id | apply And.intro | (intro h; (first | exact h | (simp only [Bool.and_eq_true] at h; (first | exact h.1 | exact h.1.1 | exact h.1.1.1 | exact h.2)) | (rw [h]; rfl) | (rw [zh, h]; rfl) | simp_all)))); ((first | (exact qBL hll rfl rfl) | (exact qDM mkStop rfl) | ((with_reducible apply qAe); (conv => lhs; whnf)) | ((with_reducible first | apply qAg | apply qAi | apply qAB | apply qAY) <;> first | ((with_reducible apply tyOk); eq_refl) | eq_refl | decide) | ((with_reducible apply qAG); exact tyOk rfl; eq_refl; eq_refl; (focus repeat' (first | eq_refl | refine ⟨_, _, rfl, rfl, qle rfl, rfl, ?_⟩)); eq_refl)); (first | exact qAb _ | exact qAm _ _ | exact qAk _ _ _ | exact qAl _ _ _ _))) | (with_reducible first | apply qAr | apply qAp | apply qAj | apply qBD) | ((with_reducible apply qBQ); (first | kernel_rfl | eq_refl)) | ((with_reducible first | apply rp | apply dr); first | (exact qBL hll rfl rfl) | (exact qDM mkStop rfl) | ((with_reducible apply qAe); (conv => lhs; whnf)) | ((with_reducible first | apply qAg | apply qAi | apply qAB | apply qAY) <;> first | ((with_reducible apply tyOk); eq_refl) | eq_refl | decide) | ((with_reducible apply qAG); exact tyOk rfl; eq_refl; eq_refl; (focus repeat' (first | eq_refl | refine ⟨_, _, rfl, rfl, qle rfl, rfl, ?_⟩)); eq_refl)) | ((with_reducible apply qBI); eq_refl; eq_refl))
    exact ⟨_, _, _, pans_panic rfl, rfl⟩
set_option maxHeartbeats 1000000 in
theorem qEh (T : List Tk) (hT : T.length ≤ 1000) (i : Nat) (hi : i ≤ T.length) (t : Tk) (ht : TkOk t) (hb : T[i]? ≠ some t) :
    PN Tryd.prog 120 [.px 1000 0, .d (.ag t.cs)] (rdrB T i) [] (qFr i (if T.length ≤ i then 4 else 3)) := by
  have p1 := qBW T hT i hi t ht hb
  have n1 := fail_pn T hT i hi
  obtain ⟨tk, tt, tn, tb⟩ := t
  have p1 : PX Tryd.prog 89 [.px 1000 0, .d (.ag [iD tk, strD tt, iD tn, qD tb])] (rdrB T i) [] (bD false) (rdrB T i) [] := p1
  show PN Tryd.prog 120 [.px 1000 0, .d (.ag [iD tk, strD tt, iD tn, qD tb])] (rdrB T i) [] _
  refine qBt Tryd.func120 rfl (by kernel_rfl) mixed (by kernel_rfl) (qle (by kernel_rfl)) ?_
  repeat (first | (refine qB2 (pre := [_]) (op := (.call ⟨.value (.func 128), _, _⟩)) (post := []) mixed rfl ?_) | ((first | (with_reducible apply rpGT) | (with_reducible apply drGT) | (with_reducible apply qAR) | (with_reducible apply qAQ)); eq_refl; (first | exact qAE rfl | exact qAu rfl | exact qAy rfl | exact qAw rfl); (first | eq_refl | assumption | decide); (focus repeat' (first | exact trivial | exact id | apply And.intro | (intro h; (first | exact h | (simp only [Bool.and_eq_true] at h; (first | exact h.1 | exact h.1.1 | exact h.1.1.1 | exact h.2)) | (rw [h]; rfl) | (rw [zh, h]; rfl) | simp_all)))); (first | ((refine qAa [] [] (ups := [(1000, .var 87 [.d (qAs T), .d (iD i)])]) rfl (p1) rfl (kpX rfl) rfl (insX rfl) (insQ rfl) rfl rfl rfl rfl rfl (insX rfl) rfl rfl); (first | exact qAb _ | exact qAm _ _ | exact qAk _ _ _ | exact qAl _ _ _ _)) | ((first | ((with_reducible apply qAe); (conv => lhs; whnf)) | ((with_reducible first | apply qAn | apply qBc | apply qAv) <;> first | ((with_reducible apply tyOk); eq_refl) | eq_refl | exact qle rfl)); (first | exact qAb _ | exact qAm _ _ | exact qAk _ _ _ | exact qAl _ _ _ _)))) | (with_reducible first | apply qAr | apply qAq | apply qAp | apply qAj) | ((with_reducible apply rp); first | ((with_reducible apply qAe); (conv => lhs; whnf)) | ((with_reducible apply qAn); exact tyOk rfl; (iterate 3 eq_refl); exact qle rfl; eq_refl) | ((with_reducible apply qBc); eq_refl)) | ((with_reducible apply rp1); ((with_reducible apply qAv); eq_refl; eq_refl)) | ((with_reducible apply rpL); (refine qAa [] [] (ups := [(1000, .var 87 [.d (qAs T), .d (iD i)])]) rfl (p1) rfl (kpX rfl) rfl (insX rfl) (insQ rfl) rfl rfl rfl rfl rfl (insX rfl) rfl rfl); exact qAb _) | ((with_reducible apply qBK); eq_refl; eq_refl))
  refine ⟨_, _, _, qBl [] rfl (n1) rfl ?_ rfl ?_ ?_ rfl rfl rfl rfl, ?_⟩; (focus repeat' (first | exact trivial | eq_refl | apply And.intro)); (iterate 2 (focus repeat' (first | exact trivial | exact qA5 rfl | apply And.intro))); exact rfl
end Go.Proofs.YtlpnnnmdkglkcaaDoor


/-
  The reader of package expr, where it fails: a chain of operations of one level. No condition but the sizes.
-/
namespace Go.Proofs.YtlpnnnmdkglkcaaDoor
open Go.RowKit

def qBX (g : FuncId) (T : List Tk) (next : Nat → Pr) : Prop := ∀ i p er, i ≤ T.length → next i = .bad p er → PN Tryd.prog g [.px 1000 0] (rdrB T i) [] (qFr p er)
set_option maxHeartbeats 4000000 in
theorem qEH (T : List Tk) (hT : T.length ≤ 1000) (g : FuncId) (next : Nat → Pr) (hn : qBJ g T next) (hb : qBX g T next) (ops : List Nat) (hops : ∀ o ∈ ops, bi2 o ∧ o ≠ 20) (hl : ops.length ≤ 10) (i p er : Nat) (hi : i ≤ T.length) (h : qCl T next ops i = .bad p er) :
    PN Tryd.prog 73 [.px 1000 0, .fn (.func g) [.px 1000 0] [], .d (opsD ops)] (rdrB T i) [] (qFr p er) := by
  unfold qCl at h
  cases hf : next i with
  | out => rw [hf] at h; cases h
  | bad p0 e0 =>
    rw [hf] at h
    injection h with h1 h2
    subst h1 h2
    have n0 := hb i p0 e0 hi hf
    refine qBt Tryd.func73 rfl (by kernel_rfl) mixed (by kernel_rfl) (qle (by kernel_rfl)) ?_
    repeat (first | (refine qB2 (pre := [_]) (op := (.call ⟨.value (.tmp 11), _, _⟩)) (post := [_, _]) mixed rfl ?_) | ((first | (with_reducible apply rpGT) | (with_reducible apply drGT) | (with_reducible apply qAR) | (with_reducible apply qAQ)); eq_refl; (first | exact qAE rfl | exact qAu rfl | exact qAy rfl | exact qAw rfl); (first | eq_refl | assumption | decide); (focus repeat' (first | exact trivial | exact id | apply And.intro | (intro h; (first | exact h | (simp only [Bool.and_eq_true] at h; (first | exact h.1 | exact h.1.1 | exact h.1.1.1 | exact h.2)) | (rw [h]; rfl) | (rw [zh, h]; rfl) | simp_all)))); ((first | ((with_reducible apply qAe); (conv => lhs; whnf)) | ((with_reducible apply qAh); exact tyOk rfl; eq_refl)); (first | exact qAb _ | exact qAm _ _ | exact qAk _ _ _ | exact qAl _ _ _ _))) | (with_reducible first | apply qAr | apply qAq | apply qAp) | ((with_reducible apply rp); ((with_reducible apply qAe); (conv => lhs; whnf))) | ((with_reducible apply rp1); ((with_reducible apply qAh); exact tyOk rfl; eq_refl)))
    refine ⟨_, _, _, qBl [] rfl (n0) rfl ?_ rfl ?_ ?_ rfl rfl rfl rfl, ?_⟩; (focus repeat' (first | exact trivial | eq_refl | apply And.intro)); (iterate 2 (focus repeat' (first | exact trivial | exact qA5 rfl | apply And.intro))); eq_refl
  | ok e0 k0 =>
    rw [hf] at h
    have h : chn T next ops (T.length + 1) e0 k0 = .bad p er := h
    obtain ⟨hk0, p0⟩ := hn i e0 k0 hi hf
    generalize T.length + 1 = n0 at h
    refine qBt Tryd.func73 rfl (by kernel_rfl) mixed (by kernel_rfl) (qle (by kernel_rfl)) ?_
    repeat (first | ((first | (with_reducible apply rpGT) | (with_reducible apply drGT) | (with_reducible apply qAR) | (with_reducible apply qAQ)); eq_refl; (first | exact qAE rfl | exact qAu rfl | exact qAy rfl | exact qAw rfl); (first | eq_refl | assumption | decide); (focus repeat' (first | exact trivial | exact id | apply And.intro | (intro h; (first | exact h | (simp only [Bool.and_eq_true] at h; (first | exact h.1 | exact h.1.1 | exact h.1.1.1 | exact h.2)) | (rw [h]; rfl) | (rw [zh, h]; rfl) | simp_all)))); (first | ((refine qAa [] [] (ups := [(1000, .var 87 [.d (qAs T), .d (iD k0)])]) rfl (p0) rfl (kpX rfl) rfl (insX rfl) (insQ rfl) rfl rfl rfl rfl rfl (insX rfl) rfl rfl); (first | exact qAb _ | exact qAm _ _ | exact qAk _ _ _ | exact qAl _ _ _ _)) | ((first | ((with_reducible first | apply qAe | apply qAd); (conv => lhs; whnf)) | ((with_reducible first | apply qAh | apply qAf) <;> first | ((with_reducible apply tyOk); eq_refl) | eq_refl)); (first | exact qAb _ | exact qAm _ _ | exact qAk _ _ _ | exact qAl _ _ _ _)))) | (with_reducible first | apply qAr | apply qAq | apply qAp | apply qAj | apply qAA) | ((with_reducible apply rp); first | ((with_reducible apply qAe); (conv => lhs; whnf)) | ((with_reducible apply qAd); (conv => lhs; whnf))) | ((with_reducible apply rp1); ((with_reducible apply qAh); exact tyOk rfl; eq_refl)) | ((with_reducible apply rpN); ((with_reducible apply qAf); exact tyOk rfl; (iterate 5 eq_refl))) | ((with_reducible apply rpL); (refine qAa [] [] (ups := [(1000, .var 87 [.d (qAs T), .d (iD k0)])]) rfl (p0) rfl (kpX rfl) rfl (insX rfl) (insQ rfl) rfl rfl rfl rfl rfl (insX rfl) rfl rfl); exact qAb _))
    refine qCh (fun m s => ∃ n e k, k ≤ T.length ∧ chn T next ops n e k = .bad p er ∧ n = m ∧ s = ⟨[(0, .px 1000 0), (1, .fn (.func g) [.px 1000 0] []), (2, .d (opsD ops)), (6, .px 6 0), (7, .px 7 0), (8, .d (bD true))], [(1000, .var 87 [.d (qAs T), .d (iD k)]), (6, .var 53 exZ), (7, .var 53 (exB e))]⟩) _ _ ?_ ⟨n0, e0, k0, hk0, h, rfl, rfl⟩ ?_
    · refine qA7 [] (by repeat' (first | exact qAX | (refine qAN rfl (by exact SubA.refl _) ?_))) (kpX rfl) rfl (insS rfl) (insX rfl)
    · rintro m s ⟨n, e, k, hkl, hc, rfl, rfl⟩
      repeat (first | ((first | (with_reducible apply rpGT) | (with_reducible apply drGT) | (with_reducible apply qAR) | (with_reducible apply qAQ)); eq_refl; (first | exact qAE rfl | exact qAu rfl | exact qAy rfl | exact qAw rfl); (first | eq_refl | assumption | decide); (focus repeat' (first | exact trivial | exact id | apply And.intro | (intro h; (first | exact h | (simp only [Bool.and_eq_true] at h; (first | exact h.1 | exact h.1.1 | exact h.1.1.1 | exact h.2)) | (rw [h]; rfl) | (rw [zh, h]; rfl) | simp_all)))); ((first | ((with_reducible apply qAe); (conv => lhs; whnf))); (first | exact qAb _ | exact qAm _ _ | exact qAk _ _ _ | exact qAl _ _ _ _))) | (with_reducible first | apply qAr | apply qAq | apply qAp | apply qAj) | ((with_reducible apply rp); ((with_reducible apply qAe); (conv => lhs; whnf))))
      refine qAx rfl (fun _ => ?_) (fun hd => absurd hd (by decide))
      repeat (first | ((first | (with_reducible apply rpGT) | (with_reducible apply drGT) | (with_reducible apply qAR) | (with_reducible apply qAQ)); eq_refl; (first | exact qAE rfl | exact qAu rfl | exact qAy rfl | exact qAw rfl); (first | eq_refl | assumption | decide); (focus repeat' (first | exact trivial | exact id | apply And.intro | (intro h; (first | exact h | (simp only [Bool.and_eq_true] at h; (first | exact h.1 | exact h.1.1 | exact h.1.1.1 | exact h.2)) | (rw [h]; rfl) | (rw [zh, h]; rfl) | simp_all)))); ((first | ((with_reducible first | apply qAe | apply qAd); (conv => lhs; whnf)) | ((with_reducible apply qAB); exact tyOk rfl; eq_refl; eq_refl)); (first | exact qAb _ | exact qAm _ _ | exact qAk _ _ _ | exact qAl _ _ _ _))) | (with_reducible first | apply qAr | apply qAq | apply qAp | apply qAj | apply qAA | apply qAF) | ((with_reducible apply rp); first | ((with_reducible apply qAe); (conv => lhs; whnf)) | ((with_reducible apply qAd); (conv => lhs; whnf)) | ((with_reducible apply qAB); exact tyOk rfl; eq_refl; eq_refl)))
      refine qCh (fun m s => ∃ q, q ≤ ops.length ∧ (∀ p o, p < q → ops[p]? = some o → T[k]? ≠ some (qCr o)) ∧ m = ops.length - q ∧ s = ⟨[(0, .px 1000 0), (1, .fn (.func g) [.px 1000 0] []), (2, .d (opsD ops)), (6, .px 6 0), (7, .px 7 0), (8, .d (bD false)), (14, .d (opsD ops)), (15, .d (iD ops.length)), (16, .d (iD q))], [(1000, .var 87 [.d (qAs T), .d (iD k)]), (6, .var 53 exZ), (7, .var 53 (exB e))]⟩) _ _ ?_ ⟨0, by omega, fun p o hp => by omega, rfl, rfl⟩ ?_
      · refine qA7 [] (by repeat' (first | exact qAX | (refine qAN rfl (by exact SubA.refl _) ?_))) (kpX rfl) rfl (insS rfl) (insX rfl)
      · rintro m s ⟨q, hq, hnone, rfl, rfl⟩
        repeat (first | ((first | (with_reducible apply rpGT) | (with_reducible apply drGT) | (with_reducible apply qAR) | (with_reducible apply qAQ)); eq_refl; (first | exact qAE rfl | exact qAu rfl | exact qAy rfl | exact qAw rfl); (first | eq_refl | assumption | decide); (focus repeat' (first | exact trivial | exact id | apply And.intro | (intro h; (first | exact h | (simp only [Bool.and_eq_true] at h; (first | exact h.1 | exact h.1.1 | exact h.1.1.1 | exact h.2)) | (rw [h]; rfl) | (rw [zh, h]; rfl) | simp_all)))); ((first | ((with_reducible apply qA0); eq_refl; eq_refl)); (first | exact qAb _ | exact qAm _ _ | exact qAk _ _ _ | exact qAl _ _ _ _))) | (with_reducible first | apply qAr | apply qAq | apply qAp | apply qAj) | ((with_reducible apply rp); ((with_reducible apply qA0); eq_refl; eq_refl)))
        refine qAx rfl (fun hd => ?_) (fun hd => ?_)
        · have hlt : q < ops.length := by simpa using hd
          clear hd
          obtain ⟨op, hop⟩ : ∃ op, ops[q]? = some op := ⟨_, List.getElem?_eq_getElem hlt⟩
          have hgo : (ops.map fun (o : Nat) => [iD (o : Int)])[q]? = some [iD (op : Int)] := by rw [List.getElem?_map, hop]; rfl
          obtain ⟨hb2, h20⟩ := hops op (List.mem_of_getElem? hop)
          have mk := qER op hb2 h20
          by_cases hT2 : T[k]? = some (qCr op)
          · have t1 := qBO T hT k (qCr op) (qDv op hb2 h20) hT2
            have hkl2 : k + 1 ≤ T.length := (List.getElem?_eq_some_iff.1 hT2).1
            cases n with
            | zero => cases hc
            | succ n =>
              unfold chn at hc
              rw [qFw hT2 hnone hop] at hc
              cases hq2 : next (k + 1) with
              | out => simp only [hq2] at hc; cases hc
              | bad p2 e2 =>
                simp only [hq2] at hc
                injection hc with h1 h2
                subst h1 h2
                have n2 := hb (k + 1) p2 e2 hkl2 hq2
                repeat (first | (apply aw_panD (k := 3) (f := 2) (tf := 26) (dep := [4, 5, 6]) [] mixed) | ((first | (with_reducible apply rpGT) | (with_reducible apply drGT) | (with_reducible apply qAR) | (with_reducible apply qAQ)); eq_refl; (first | exact qAE rfl | exact qAu rfl | exact qAy rfl | exact qAw rfl); (first | eq_refl | assumption | decide); (focus repeat' (first | exact trivial | exact id | apply And.intro | (intro h; (first | exact h | (simp only [Bool.and_eq_true] at h; (first | exact h.1 | exact h.1.1 | exact h.1.1.1 | exact h.2)) | (rw [h]; rfl) | (rw [zh, h]; rfl) | simp_all)))); (first | ((refine qAa [] [] (ups := [(1000, .var 87 [.d (qAs T), .d (iD (k + 1 : Nat))])]) rfl (t1) rfl (kpX rfl) rfl (insX rfl) (insQ rfl) rfl rfl rfl rfl rfl (insX rfl) rfl rfl); (first | exact qAb _ | exact qAm _ _ | exact qAk _ _ _ | exact qAl _ _ _ _)) | ((first | ((with_reducible apply qAc); eq_refl; eq_refl; exact (mk); eq_refl) | ((with_reducible first | apply qAe | apply qAd); (conv => lhs; whnf)) | ((with_reducible apply qBs); exact tyOk rfl; eq_refl; eq_refl; assumption; eq_refl) | ((with_reducible apply qAz); exact tyOk rfl; eq_refl; exact tyOk rfl; (iterate 4 eq_refl); (simp only [List.length_map, List.length_append, List.length_cons, List.length_nil] at *; omega))); (first | exact qAb _ | exact qAm _ _ | exact qAk _ _ _ | exact qAl _ _ _ _)))) | (with_reducible first | apply qAr | apply qAq | apply qAp | apply qAj | apply qAA | apply qAF) | ((with_reducible apply rp); first | ((with_reducible apply qAc); eq_refl; eq_refl; exact (mk); eq_refl) | ((with_reducible apply qAe); (conv => lhs; whnf)) | ((with_reducible apply qAd); (conv => lhs; whnf)) | ((with_reducible apply qBs); exact tyOk rfl; eq_refl; eq_refl; assumption; eq_refl) | ((with_reducible apply qAz); exact tyOk rfl; eq_refl; exact tyOk rfl; (iterate 4 eq_refl); (simp only [List.length_map, List.length_append, List.length_cons, List.length_nil] at *; omega))) | ((with_reducible apply rpL); (refine qAa [] [] (ups := [(1000, .var 87 [.d (qAs T), .d (iD (k + 1 : Nat))])]) rfl (t1) rfl (kpX rfl) rfl (insX rfl) (insQ rfl) rfl rfl rfl rfl rfl (insX rfl) rfl rfl); exact qAb _) | ((with_reducible apply qBK); eq_refl; eq_refl))
                · rfl
                · rfl
                · rfl
                · exact qAe rfl
                · decide
                · decide
                · rfl
                · rfl
                · rfl
                · refine qBl [] rfl (n2) rfl ?_ rfl ?_ ?_ rfl rfl rfl rfl; (focus repeat' (first | exact trivial | eq_refl | apply And.intro)); (iterate 2 (focus repeat' (first | exact trivial | exact qA5 rfl | apply And.intro)))
                · rfl
                · intro i o ho
                  rcases i with _ | _ | _ | _ | _ | _ | _ | i
                  · injection ho with ho
                    subst ho
                    apply panFree
                    exact qAe rfl
                    all_goals first | decide | eq_refl
                  · injection ho with ho
                    subst ho
                    apply panFree
                    with_reducible apply qAn
                    exact tyOk rfl
                    exact rfl
                    exact rfl
                    exact rfl
                    exact qle rfl
                    exact rfl
                    all_goals first | decide | eq_refl
                  · exact .inr (.inl rfl)
                  · exact .inl rfl
                  · injection ho with ho
                    subst ho
                    exact .inr (.inr (.inl rfl))
                  · injection ho with ho
                    subst ho
                    exact .inr (.inr (.inl rfl))
                  · injection ho with ho
                    subst ho
                    exact .inr (.inr (.inl rfl))
                  · cases ho
              | ok e2 k2 =>
                simp only [hq2] at hc
                have hc : chn T next ops n (.bi op e e2) k2 = .bad p er := hc
                obtain ⟨hk2, p2⟩ := hn (k + 1) e2 k2 hkl2 hq2
                have tw := twoX_pc op e e2
                repeat (first | ((first | (with_reducible apply rpGT) | (with_reducible apply drGT) | (with_reducible apply qAR) | (with_reducible apply qAQ)); eq_refl; (first | exact qAE rfl | exact qAu rfl | exact qAy rfl | exact qAw rfl); (first | eq_refl | assumption | decide); (focus repeat' (first | exact trivial | exact id | apply And.intro | (intro h; (first | exact h | (simp only [Bool.and_eq_true] at h; (first | exact h.1 | exact h.1.1 | exact h.1.1.1 | exact h.2)) | (rw [h]; rfl) | (rw [zh, h]; rfl) | simp_all)))); (first | ((refine qAa [] [] (ups := [(1000, .var 87 [.d (qAs T), .d (iD (k + 1 : Nat))])]) rfl (t1) rfl (kpX rfl) rfl (insX rfl) (insQ rfl) rfl rfl rfl rfl rfl (insX rfl) rfl rfl); (first | exact qAb _ | exact qAm _ _ | exact qAk _ _ _ | exact qAl _ _ _ _)) | ((refine qAa [] [] (ups := [(1000, .var 87 [.d (qAs T), .d (iD k2)])]) rfl (p2) rfl (kpX rfl) rfl (insX rfl) (insQ rfl) rfl rfl rfl rfl rfl (insX rfl) rfl rfl); (first | exact qAb _ | exact qAm _ _ | exact qAk _ _ _ | exact qAl _ _ _ _)) | ((first | ((with_reducible apply qAc); eq_refl; eq_refl; exact (mk); eq_refl) | ((with_reducible apply qAH); (iterate 3 eq_refl); exact (tw)) | ((with_reducible first | apply qAe | apply qAd); (conv => lhs; whnf)) | ((with_reducible apply qBs); exact tyOk rfl; eq_refl; eq_refl; assumption; eq_refl) | ((with_reducible apply qAn); exact tyOk rfl; (iterate 3 eq_refl); exact qle rfl; eq_refl) | ((with_reducible apply qAz); exact tyOk rfl; eq_refl; exact tyOk rfl; (iterate 4 eq_refl); (simp only [List.length_map, List.length_append, List.length_cons, List.length_nil] at *; omega)) | ((with_reducible apply qAf); exact tyOk rfl; (iterate 5 eq_refl))); (first | exact qAb _ | exact qAm _ _ | exact qAk _ _ _ | exact qAl _ _ _ _)))) | (with_reducible first | apply qAr | apply qAq | apply qAp | apply qAj | apply qBD | apply qAA | apply qCb | apply qCd | apply qCc | apply qA4 | apply qAF) | ((with_reducible apply qD6); eq_refl) | ((with_reducible apply qBQ); (first | kernel_rfl | eq_refl)) | ((with_reducible first | apply rp | apply dr); first | ((with_reducible apply qAc); eq_refl; eq_refl; exact (mk); eq_refl) | ((with_reducible apply qAH); (iterate 3 eq_refl); exact (tw)) | ((with_reducible first | apply qAe | apply qAd); (conv => lhs; whnf)) | ((with_reducible apply qBs); exact tyOk rfl; eq_refl; eq_refl; assumption; eq_refl) | ((with_reducible apply qAn); exact tyOk rfl; (iterate 3 eq_refl); exact qle rfl; eq_refl) | ((with_reducible apply qAz); exact tyOk rfl; eq_refl; exact tyOk rfl; (iterate 4 eq_refl); (simp only [List.length_map, List.length_append, List.length_cons, List.length_nil] at *; omega))) | ((with_reducible apply drN); ((with_reducible apply qAf); exact tyOk rfl; (iterate 5 eq_refl))) | ((with_reducible first | apply rpL | apply drL); (refine qAa [] [] (ups := [(1000, .var 87 [.d (qAs T), .d (iD (k + 1 : Nat))])]) rfl (t1) rfl (kpX rfl) rfl (insX rfl) (insQ rfl) rfl rfl rfl rfl rfl (insX rfl) rfl rfl); exact qAb _) | ((with_reducible first | apply rpL | apply drL); (refine qAa [] [] (ups := [(1000, .var 87 [.d (qAs T), .d (iD k2)])]) rfl (p2) rfl (kpX rfl) rfl (insX rfl) (insQ rfl) rfl rfl rfl rfl rfl (insX rfl) rfl rfl); exact qAb _) | ((with_reducible apply qBK); eq_refl; eq_refl))
                refine ⟨_, _, ?_, ?_, n, .bi op e e2, k2, hk2, hc, rfl, rfl⟩
                · omega
                · refine qA7 [] (by repeat' (first | exact qAX | (refine qAN rfl (by exact SubA.refl _) ?_))) (kpX rfl) rfl (insS rfl) (insX rfl)
          · have t1 := qBW T hT k hkl (qCr op) (qDv op hb2 h20) hT2
            repeat (first | ((first | (with_reducible apply rpGT) | (with_reducible apply drGT) | (with_reducible apply qAR) | (with_reducible apply qAQ)); eq_refl; (first | exact qAE rfl | exact qAu rfl | exact qAy rfl | exact qAw rfl); (first | eq_refl | assumption | decide); (focus repeat' (first | exact trivial | exact id | apply And.intro | (intro h; (first | exact h | (simp only [Bool.and_eq_true] at h; (first | exact h.1 | exact h.1.1 | exact h.1.1.1 | exact h.2)) | (rw [h]; rfl) | (rw [zh, h]; rfl) | simp_all)))); (first | ((refine qAa [] [] (ups := [(1000, .var 87 [.d (qAs T), .d (iD k)])]) rfl (t1) rfl (kpX rfl) rfl (insX rfl) (insQ rfl) rfl rfl rfl rfl rfl (insX rfl) rfl rfl); (first | exact qAb _ | exact qAm _ _ | exact qAk _ _ _ | exact qAl _ _ _ _)) | ((first | ((with_reducible apply qAc); eq_refl; eq_refl; exact (mk); eq_refl) | ((with_reducible first | apply qAe | apply qAd); (conv => lhs; whnf)) | ((with_reducible apply qBs); exact tyOk rfl; eq_refl; eq_refl; assumption; eq_refl) | ((with_reducible apply qAz); exact tyOk rfl; eq_refl; exact tyOk rfl; (iterate 4 eq_refl); (simp only [List.length_map, List.length_append, List.length_cons, List.length_nil] at *; omega)) | ((with_reducible apply qAV); eq_refl; eq_refl; omega; omega)); (first | exact qAb _ | exact qAm _ _ | exact qAk _ _ _ | exact qAl _ _ _ _)))) | (with_reducible first | apply qAr | apply qAq | apply qAp | apply qAj | apply qAA | apply qA4 | apply qAF) | ((with_reducible apply rp); first | ((with_reducible apply qAc); eq_refl; eq_refl; exact (mk); eq_refl) | ((with_reducible apply qAe); (conv => lhs; whnf)) | ((with_reducible apply qAd); (conv => lhs; whnf)) | ((with_reducible apply qBs); exact tyOk rfl; eq_refl; eq_refl; assumption; eq_refl) | ((with_reducible apply qAz); exact tyOk rfl; eq_refl; exact tyOk rfl; (iterate 4 eq_refl); (simp only [List.length_map, List.length_append, List.length_cons, List.length_nil] at *; omega)) | ((with_reducible apply qAV); eq_refl; eq_refl; omega; omega)) | ((with_reducible apply rpL); (refine qAa [] [] (ups := [(1000, .var 87 [.d (qAs T), .d (iD k)])]) rfl (t1) rfl (kpX rfl) rfl (insX rfl) (insQ rfl) rfl rfl rfl rfl rfl (insX rfl) rfl rfl); exact qAb _) | ((with_reducible apply qBI); eq_refl; eq_refl))
            refine ⟨_, _, ?_, ?_, q + 1, by omega, fun p o hp ho => ?_, rfl, rfl⟩
            · omega
            · refine qA7 [] (by repeat' (first | exact qAX | (refine qAN rfl (by exact SubA.refl _) ?_))) (kpX rfl) rfl (insS rfl) (insX rfl)
            · rcases Nat.lt_or_ge p q with h1 | h1
              · exact hnone p o h1 ho
              · have : p = q := by omega
                subst this
                rw [hop] at ho
                injection ho with ho
                subst ho
                exact hT2
        · have hqe : q = ops.length := by simp at hd; omega
          clear hd
          subst hqe
          have hpn : qCs T ops k = none := qC9 fun o ho => by
            obtain ⟨p, hp⟩ := List.getElem?_of_mem ho
            exact hnone p o (List.getElem?_eq_some_iff.1 hp).1 hp
          exfalso
          cases n with
          | zero => cases hc
          | succ n =>
            unfold chn at hc
            rw [hpn] at hc
            cases hc
end Go.Proofs.YtlpnnnmdkglkcaaDoor

