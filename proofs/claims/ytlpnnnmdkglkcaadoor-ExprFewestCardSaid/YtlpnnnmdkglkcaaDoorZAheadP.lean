/-
  expr.Ahead, where reading fails. No condition but the sizes and that the tokens may be.
-/
import Derived.Test.YtlpnnnmdkglkcaaDoorZAhead
import Derived.Test.YtlpnnnmdkglkcaaDoorZK
import Derived.Test.YtlpnnnmdkglkcaaDoorZRdgP
set_option linter.unusedSimpArgs false
set_option linter.unusedVariables false
namespace Go.Proofs.YtlpnnnmdkglkcaaDoor
open Go.RowKit

section
variable {P : Program} {dst : Option Nat} {ty : TypeId} {e : Operand → A} {β : Bx} {x y : Operand}
def ifaceT (P : Program) (T : TypeId) : Bool := match P.underlying T with
  | some (.interface _) => true
  | _ => false
theorem does_neNil {T T' T2 : TypeId} {u : Value} (hT : ifaceT P T' = true) (hx : e x = .d (.sc (.iface T u))) (hy : y = .const .nilIface) : Does P dst (.binOp .neq T' x y T2) ty e β (.d (bD true)) [] [] := by
  subst hy
  intro C γ hag ρ I w hm a hops o hop hd hty K Q hK
  have hv : a.eval x = .iface T u := by
    have := (hops x (by simp [Op.operands])).2
    rw [hx] at this
    exact qBu this
  unfold Oper.wp
  have hr : (execOp a.eval o).run P w = .ok (.value (.bool true)) w := by
    unfold execOp
    rw [hop]
    simp only [hv]
    unfold ifaceT at hT
    have hE : (Op.equal T' (.iface T u) .nilIface).run P w = .ok false w := by
      cases hu : P.underlying T' with
      | none => rw [hu] at hT; cases hT
      | some d =>
        rw [hu] at hT
        unfold Op.equal Op.maxDepth Op.equalIn
        rw [Sem.run_bind, run_underlying hu w, Result.andThen_ok]
        cases d <;> first | (cases hT; done) | rfl
    have he : a.eval (.const .nilIface) = .nilIface := rfl
    simp only [he, eqGuard, binOp, map_eq_pure_bind, bind_assoc, pure_bind, Sem.run_bind, hE, Result.andThen_ok, Sem.run_pure, Bool.not_true, Bool.false_eq_true, if_false]
    rfl
  rw [hr, Oper.upon_value, hd]
  exact hK _ ρ I w hm (Ext.refl _ _ _ _) trivial ⟨rfl, rfl⟩
theorem qFL {T T' : TypeId} {p q : Int} (hT : plainT P T = true) (hx : e x = .d (.sc (.iface T (.agg #[.int .i64 p, .int .i64 q])))) :
    Does P dst (.typeAssert x T' T true) ty e β (.d (.tu [.ag [iD p, iD q], bD true])) [] [] := by
  intro C γ hag ρ I w hm a hops o hop hd hty K Q hK
  have hv : a.eval x = .iface T (.agg #[.int .i64 p, .int .i64 q]) := by
    have := (hops x (by simp [Op.operands])).2
    rw [hx] at this
    exact qBu this
  unfold Oper.wp
  have hr : (execOp a.eval o).run P w = .ok (.value (.tuple #[.agg #[.int .i64 p, .int .i64 q], .bool true])) w := by
    unfold execOp
    rw [hop]
    simp only [hv]
    unfold plainT at hT
    cases hu : P.underlying T with
    | none => rw [hu] at hT; cases hT
    | some d =>
      rw [hu] at hT
      unfold Instr.typeAssert
      simp only [Sem.run_bind, run_underlying hu w, Result.andThen_ok]
      cases d <;> first | (cases hT; done) | (simp [go_sem])
  rw [hr, Oper.upon_value, hd]
  refine hK _ ρ I w hm (Ext.refl _ _ _ _) trivial ?_
  exact ⟨_, rfl, _, _, rfl, (fun h => by cases h), ⟨_, rfl, _, _, rfl, fun _ => rfl, ⟨rfl, rfl⟩, _, _, rfl, fun _ => rfl, ⟨rfl, rfl⟩, rfl⟩, _, _, rfl, (fun h => by cases h), ⟨rfl, rfl⟩, rfl⟩
end
abbrev catV : Bx := [(1004, .var 53 exZ), (1005, .var 3 [.d (iD 0)]), (1006, .var 3 [.d (iD 0)]), (1007, .var 25 [.d (iD 0)])]
abbrev catW (p er : Nat) : Bx := [(1004, .var 53 exZ), (1005, .var 3 [.d (iD 0)]), (1006, .var 3 [.d (iD p)]), (1007, .var 25 [.d (iD er)])]
theorem ahead_catches (p er : Nat) : Catches Tryd.prog 43 [.px 1004 0, .px 1005 0, .px 1006 0, .px 1007 0] catV (catW p er) (.iface 89 (.agg #[.int .i64 p, .int .i64 er])) := by
  refine catches_of_aw (t7 := 7) (t := 4) Tryd.func43 rfl mixed (by kernel_rfl) (qle (by kernel_rfl)) Tryd.results43 rfl ?_ (by decide) (by decide) (by rw [Tryd.ntmps43]; decide) ?_
  · intro c₀ cs v Q a w hu hsz hQ
    apply wpS_region
    have h7 : 7 < a.tmps.size := by rw [hsz, Tryd.ntmps43]; decide
    simp [wpOpsS, go_sem, recoverD, hu, Exit.thenS, h7]
    exact hQ
  · repeat (first | ((first | (with_reducible apply rpGT) | (with_reducible apply drGT) | (with_reducible apply qAR) | (with_reducible apply qAQ)); eq_refl; (first | exact qAE rfl | exact qAu rfl | exact qAy rfl | exact qAw rfl); (first | eq_refl | assumption | decide); (focus repeat' (first | exact trivial | exact id | apply And.intro | (intro h; (first | exact h | (simp only [Bool.and_eq_true] at h; (first | exact h.1 | exact h.1.1 | exact h.1.1.1 | exact h.2)) | (rw [h]; rfl) | (rw [zh, h]; rfl) | simp_all)))); ((first | (exact does_neNil (by kernel_rfl) rfl rfl) | (exact qFL (by kernel_rfl) rfl) | ((with_reducible first | apply qAe | apply qAd); (conv => lhs; whnf)) | ((with_reducible first | apply qAg | apply qAi | apply qBc | apply qA3 | apply qBE | apply qAh) <;> first | ((with_reducible apply tyOk); eq_refl) | eq_refl | decide) | ((with_reducible apply qBh); exact tyOk rfl; eq_refl; eq_refl; (conv => lhs; whnf); eq_refl; eq_refl; exact qle rfl) | ((with_reducible apply qAf); exact tyOk rfl; (iterate 5 eq_refl))); (first | exact qAb _ | exact qAm _ _ | exact qAk _ _ _ | exact qAl _ _ _ _))) | (with_reducible first | apply qAr | apply qAq | apply qAp | apply qAj | apply qBD | apply qAF) | ((with_reducible apply qBQ); (first | kernel_rfl | eq_refl)) | ((with_reducible first | apply rp | apply dr); first | (exact does_neNil (by kernel_rfl) rfl rfl) | (exact qFL (by kernel_rfl) rfl) | ((with_reducible first | apply qAe | apply qAd); (conv => lhs; whnf)) | ((with_reducible first | apply qAg | apply qAi | apply qBc | apply qA3 | apply qBE) <;> first | ((with_reducible apply tyOk); eq_refl) | eq_refl | decide)) | ((with_reducible apply rp1); ((with_reducible apply qAh); exact tyOk rfl; eq_refl)) | ((with_reducible first | apply rpN | apply drN); first | ((with_reducible apply qBh); exact tyOk rfl; eq_refl; eq_refl; (conv => lhs; whnf); eq_refl; eq_refl; exact qle rfl) | ((with_reducible apply qAf); exact tyOk rfl; (iterate 5 eq_refl))) | ((with_reducible apply qBI); eq_refl; eq_refl) | ((with_reducible apply qBK); eq_refl; eq_refl))
    refine ⟨[], (by repeat' (first | exact qAX | (refine qAN rfl (by exact SubA.refl _) ?_))), (by repeat' (first | exact trivial | eq_refl | apply And.intro)), rfl, insS rfl, (by repeat' (first | exact trivial | exact qA5 rfl | apply And.intro))⟩
theorem ahead_def2 : DefR2 Tryd.prog (.region 4 #[{ dst := some 22, op := .makeFunc (.func 43) #[] #[.tmp 4, .tmp 5, .tmp 6, .tmp 7], type := 1, pos := "expr.go:366", after := #[], guard := none },
    { dst := none, op := .defer { callee := .value (.tmp 22), args := #[], argTypes := #[] }, type := 0, pos := "expr.go:366", after := #[{ on := 0, ground := .data }], guard := none }] false) 43 [4, 5, 6, 7] 22 := by
  intro Q a w ha h
  have hmf : ∀ (fn : Fn) (first cap : Array Value) (w : World), (Instr.makeFunc fn first cap).run Tryd.prog w = .ok (.func fn first cap) w := fun _ _ _ _ => rfl
  refine wp_region_list ?_
  have hh := h (.func (.func 43) #[] #[a.eval (.tmp 4), a.eval (.tmp 5), a.eval (.tmp 6), a.eval (.tmp 7)])
  simp [wpList, Region.wanted, Oper.wp, execOp, hmf, Act.put, go_sem]
  refine .inl (.inl ?_)
  simp only [if_pos ha, Sem.run_pure, Result.andThen_ok, Oper.upon_defer]
  simpa [Act.eval, Act.put, Array.getD_eq_getD_getElem?] using hh
set_option maxHeartbeats 4000000 in
theorem ahead_bad (T : List Tk) (hT : T.length ≤ 1000) (hok : ∀ t ∈ T, TkOk t) (i p er : Nat) (hi : i ≤ T.length) (h : ∃ f, rd T f 1 i = .bad p er) : PC Tryd.prog 24 [qAs T, iD i] (.tu [.ag [iD 0, iD 0, iD 0, qD 0, strD .empty, strD .empty, .nl], iD 0, iD p, iD er]) := by
  obtain ⟨f, h⟩ := h
  have n1 := (fails T hT hok f).or i p er hi h
  refine pc_of_aw_dp (s3 := ⟨[(4, .px 4 0), (5, .px 5 0), (6, .px 6 0), (7, .px 7 0), (8, .px 1000 0)], [(1000, .var 87 [.d (qAs T), .d (iD i)]), (4, .var 53 exZ), (5, .var 3 [.d (iD 0)]), (6, .var 3 [.d (iD 0)]), (7, .var 25 [.d (iD 0)])]⟩)
    (s5 := ⟨[(4, .px 4 0), (5, .px 5 0), (6, .px 6 0), (7, .px 7 0)], [(4, .var 53 exZ), (5, .var 3 [.d (iD 0)]), (6, .var 3 [.d (iD 0)]), (7, .var 25 [.d (iD 0)])]⟩)
    (caps := [4, 5, 6, 7]) (t := 22) (L := [.px 4 0, .px 5 0, .px 6 0, .px 7 0]) [(1004, 4), (1005, 5), (1006, 6), (1007, 7)] Tryd.func24 rfl (by kernel_rfl) mixed (by kernel_rfl) (by kernel_rfl) (qle (by kernel_rfl)) Tryd.results24 ?_ ahead_def2 rfl (by rw [Tryd.ntmps24]; decide) rfl (qCu Tryd.func43 rfl (by kernel_rfl)) ?_ (ahead_catches p er) rfl rfl ?_ rfl ?_ ?_ rfl rfl rfl rfl ?_
  · repeat (first | ((first | (with_reducible apply rpGT) | (with_reducible apply drGT) | (with_reducible apply qAR) | (with_reducible apply qAQ)); eq_refl; exact qAu rfl; (first | eq_refl | assumption | decide); (focus repeat' (first | exact trivial | apply And.intro)); ((first | ((with_reducible first | apply qAe | apply qAd); (conv => lhs; whnf)) | ((with_reducible first | apply qAU | apply qA0 | apply qBm | apply qAB | apply qAv | apply qAh) <;> first | ((with_reducible apply tyOk); eq_refl) | eq_refl | exact trivial) | ((with_reducible apply qAG); exact tyOk rfl; eq_refl; eq_refl; (focus repeat' (first | eq_refl | refine ⟨_, _, rfl, rfl, qle rfl, rfl, ?_⟩)); eq_refl)); (first | exact qAb _ | exact qAm _ _ | exact qAk _ _ _ | exact qAl _ _ _ _))) | (with_reducible first | apply qAr | apply qAq | apply qAp | apply qAj | apply qAF) | ((with_reducible apply rp); first | ((with_reducible apply qAe); (conv => lhs; whnf)) | ((with_reducible apply qAd); (conv => lhs; whnf)) | ((with_reducible apply qAU); (iterate 3 eq_refl); exact trivial) | ((with_reducible apply qA0); eq_refl; eq_refl) | ((with_reducible apply qBm); eq_refl; eq_refl) | ((with_reducible apply qAB); exact tyOk rfl; eq_refl; eq_refl) | ((with_reducible apply qAG); exact tyOk rfl; eq_refl; eq_refl; (focus repeat' (first | eq_refl | refine ⟨_, _, rfl, rfl, qle rfl, rfl, ?_⟩)); eq_refl)) | ((with_reducible apply rp1); first | ((with_reducible apply qAv); eq_refl; eq_refl) | ((with_reducible apply qAh); exact tyOk rfl; eq_refl)) | ((with_reducible apply qAx); eq_refl; (focus (intro hd; (exfalso; simp at hd; omega))); (intro hd; clear hd)))
    refine ⟨rfl, ?_⟩
    refine qA7 [(1000, 21)] (by repeat' (first | exact qAX | (refine qAN rfl (by exact SubA.refl _) ?_))) (kpX rfl) rfl (insS rfl) (insX rfl)
  · repeat (first | (refine qB2 (id := 5) (pre := [_]) (op := (.call ⟨.value (.func 44), _, _⟩)) (post := [_]) mixed rfl ?_) | ((first | (with_reducible apply rpGT) | (with_reducible apply drGT) | (with_reducible apply qAR) | (with_reducible apply qAQ)); eq_refl; (first | exact qAE rfl | exact qAu rfl | exact qAy rfl | exact qAw rfl); (first | eq_refl | assumption | decide); (focus repeat' (first | exact trivial | exact id | apply And.intro | (intro h; (first | exact h | (simp only [Bool.and_eq_true] at h; (first | exact h.1 | exact h.1.1 | exact h.1.1.1 | exact h.2)) | (rw [h]; rfl) | (rw [zh, h]; rfl) | simp_all)))); ((first | ((with_reducible apply qAe); (conv => lhs; whnf))); (first | exact qAb _ | exact qAm _ _ | exact qAk _ _ _ | exact qAl _ _ _ _))) | (with_reducible apply qAp) | ((with_reducible apply rp); ((with_reducible apply qAe); (conv => lhs; whnf))))
    refine ⟨_, _, _, qBl [] rfl (n1) rfl ?_ rfl ?_ ?_ rfl rfl rfl rfl, ?_⟩; (focus repeat' (first | exact trivial | eq_refl | apply And.intro)); (iterate 2 (focus repeat' (first | exact trivial | exact qA5 rfl | apply And.intro)))
    refine And.intro rfl ?_
    refine qA7 [] (by repeat' (first | exact qAX | (refine qAN rfl (by exact SubA.refl _) ?_))) (kpX rfl) rfl (insS rfl) (insX rfl)
  · focus repeat' first | exact trivial | eq_refl | apply And.intro
  · focus repeat' first | exact trivial | exact qA5 rfl | apply And.intro
  · focus repeat' first | exact trivial | exact qA5 rfl | apply And.intro
  · (with_reducible apply qA8); (focus (repeat' (first | (with_reducible apply qAJ) | (with_reducible apply qAD) | ((with_reducible apply rv_cell); eq_refl; eq_refl; exact tyOk rfl; eq_refl; eq_refl) | ((with_reducible apply rv_row); eq_refl; eq_refl; exact tyOk rfl; eq_refl; exact qle rfl)))); eq_refl; refine SubD.of_eq ?_
    rfl
end Go.Proofs.YtlpnnnmdkglkcaaDoor

