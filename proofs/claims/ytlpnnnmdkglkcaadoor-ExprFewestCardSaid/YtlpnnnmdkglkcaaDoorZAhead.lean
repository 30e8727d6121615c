/-
  expr.Ahead, Parse, where all goes well. No condition but the sizes and that the tokens may be.
-/
import Derived.Test.YtlpnnnmdkglkcaaDoorZRdg
import Derived.Test.YtlpnnnmdkglkcaaDoorZPlDef
import Derived.Test.YtlpnnnmdkglkcaaDoorZX
set_option linter.unusedSimpArgs false
set_option linter.unusedVariables false
namespace Go.Proofs.YtlpnnnmdkglkcaaDoor
open Go.RowKit

theorem ahead_quiet : Quiet Tryd.prog 43 4 := by
  intro args w hargs
  obtain ⟨l⟩ := args
  obtain ⟨a, b, c, d, rfl⟩ : ∃ a b c d, l = [a, b, c, d] := by
    match l, hargs with
    | [a, b, c, d], _ => exact ⟨a, b, c, d, rfl⟩
  refine callsD_of_wpS Tryd.func43 rfl fun c₀ cs hu => ?_
  apply wpS_seq
  apply wpS_region
  simp [wpOpsS, go_sem, recoverD, hu, Tryd.ntmps43, Exit.thenS]
  apply wpS_seq
  apply wpS_region
  simp [wpOpsS, go_sem, hu, Exit.thenS]
  refine wpS_cond (t := false) (by simp [Act.eval, Array.replicate]) ?_
  simp only [Bool.false_eq_true, if_false]
  refine wpS_of_wp (wp_skip ?_)
  cases c₀
  simp_all [bodyPostS, results, Tryd.results43]
theorem ahead_def : DefR Tryd.prog (.region 4 #[{ dst := some 22, op := .makeFunc (.func 43) #[] #[.tmp 4, .tmp 5, .tmp 6, .tmp 7], type := 1, pos := "expr.go:366", after := #[], guard := none },
    { dst := none, op := .defer { callee := .value (.tmp 22), args := #[], argTypes := #[] }, type := 0, pos := "expr.go:366", after := #[{ on := 0, ground := .data }], guard := none }] false) 43 4 22 := by
  intro Q a w ha h
  have hmf : ∀ (fn : Fn) (first cap : Array Value) (w : World), (Instr.makeFunc fn first cap).run Tryd.prog w = .ok (.func fn first cap) w := fun _ _ _ _ => rfl
  refine wp_region_list ?_
  have hh := h #[a.eval (.tmp 4), a.eval (.tmp 5), a.eval (.tmp 6), a.eval (.tmp 7)] (.func (.func 43) #[] #[a.eval (.tmp 4), a.eval (.tmp 5), a.eval (.tmp 6), a.eval (.tmp 7)]) rfl
  simp [wpList, Region.wanted, Oper.wp, execOp, hmf, Act.put, go_sem]
  refine .inl (.inl ?_)
  simp only [if_pos ha, Sem.run_pure, Result.andThen_ok, Oper.upon_defer]
  simpa [Act.eval, Act.put, Array.getD_eq_getD_getElem?] using hh
set_option maxHeartbeats 4000000 in
theorem ahead_pc (T : List Tk) (hT : T.length ≤ 1000) (hok : ∀ t ∈ T, TkOk t) (i j : Nat) (hi : i ≤ T.length) (x : Ex) (h : ∃ f, rd T f 1 i = .ok x j) : PC Tryd.prog 24 [qAs T, iD i] (.tu [exD x, iD j, iD 0, iD 0]) := by
  obtain ⟨f, h⟩ := h
  obtain ⟨hj, p1⟩ := (levels T hT hok f).or i x j hi h
  refine pc_of_aw_d (s3 := ⟨[(4, .px 4 0), (5, .px 5 0), (6, .px 6 0), (7, .px 7 0), (8, .px 1000 0)], [(1000, .var 87 [.d (qAs T), .d (iD i)]), (4, .var 53 exZ), (5, .var 3 [.d (iD 0)]), (6, .var 3 [.d (iD 0)]), (7, .var 25 [.d (iD 0)])]⟩) (t := 22) Tryd.func24 rfl (by kernel_rfl) mixed (by kernel_rfl) (qle (by kernel_rfl)) Tryd.results24 ?_ ahead_def rfl (by rw [Tryd.ntmps24]; decide) (qCu Tryd.func43 rfl (by kernel_rfl)) ahead_quiet ?_
  · repeat (first | ((first | (with_reducible apply rpGT) | (with_reducible apply drGT) | (with_reducible apply qAR) | (with_reducible apply qAQ)); eq_refl; exact qAu rfl; (first | eq_refl | assumption | decide); (focus repeat' (first | exact trivial | apply And.intro)); ((first | ((with_reducible first | apply qAe | apply qAd); (conv => lhs; whnf)) | ((with_reducible first | apply qAU | apply qA0 | apply qBm | apply qAB | apply qAv | apply qAh) <;> first | ((with_reducible apply tyOk); eq_refl) | eq_refl | exact trivial) | ((with_reducible apply qAG); exact tyOk rfl; eq_refl; eq_refl; (focus repeat' (first | eq_refl | refine ⟨_, _, rfl, rfl, qle rfl, rfl, ?_⟩)); eq_refl)); (first | exact qAb _ | exact qAm _ _ | exact qAk _ _ _ | exact qAl _ _ _ _))) | (with_reducible first | apply qAr | apply qAq | apply qAp | apply qAj | apply qAF) | ((with_reducible apply rp); first | ((with_reducible apply qAe); (conv => lhs; whnf)) | ((with_reducible apply qAd); (conv => lhs; whnf)) | ((with_reducible apply qAU); (iterate 3 eq_refl); exact trivial) | ((with_reducible apply qA0); eq_refl; eq_refl) | ((with_reducible apply qBm); eq_refl; eq_refl) | ((with_reducible apply qAB); exact tyOk rfl; eq_refl; eq_refl) | ((with_reducible apply qAG); exact tyOk rfl; eq_refl; eq_refl; (focus repeat' (first | eq_refl | refine ⟨_, _, rfl, rfl, qle rfl, rfl, ?_⟩)); eq_refl)) | ((with_reducible apply rp1); first | ((with_reducible apply qAv); eq_refl; eq_refl) | ((with_reducible apply qAh); exact tyOk rfl; eq_refl)) | ((with_reducible apply qAx); eq_refl; (focus (intro hd; (exfalso; simp at hd; omega))); (intro hd; clear hd)))
    refine ⟨rfl, ?_⟩
    refine qA7 [(1000, 21)] (by repeat' (first | exact qAX | (refine qAN rfl (by exact SubA.refl _) ?_))) (kpX rfl) rfl (insS rfl) (insX rfl)
  · repeat (first | ((first | (with_reducible apply rpGT) | (with_reducible apply drGT) | (with_reducible apply qAR) | (with_reducible apply qAQ)); eq_refl; (first | exact qAE rfl | exact qAu rfl | exact qAy rfl | exact qAw rfl); (first | eq_refl | assumption | decide); (focus repeat' (first | exact trivial | exact id | apply And.intro | (intro h; (first | exact h | (simp only [Bool.and_eq_true] at h; (first | exact h.1 | exact h.1.1 | exact h.1.1.1 | exact h.2)) | (rw [h]; rfl) | (rw [zh, h]; rfl) | simp_all)))); (first | ((refine qAa [] [] (ups := [(1000, .var 87 [.d (qAs T), .d (iD j)])]) rfl (p1) rfl (kpX rfl) rfl (insX rfl) (insQ rfl) rfl rfl rfl rfl rfl (insX rfl) rfl rfl); (first | exact qAb _ | exact qAm _ _ | exact qAk _ _ _ | exact qAl _ _ _ _)) | ((first | ((with_reducible apply qAe); (conv => lhs; whnf)) | ((with_reducible first | apply qAg | apply qAi | apply qAY) <;> first | ((with_reducible apply tyOk); eq_refl) | eq_refl | decide) | ((with_reducible apply qAn); exact tyOk rfl; (iterate 3 eq_refl); exact qle rfl; eq_refl) | ((with_reducible apply qBh); exact tyOk rfl; eq_refl; eq_refl; (conv => lhs; whnf); eq_refl; eq_refl; exact qle rfl) | ((with_reducible apply qAf); exact tyOk rfl; (iterate 5 eq_refl))); (first | exact qAb _ | exact qAm _ _ | exact qAk _ _ _ | exact qAl _ _ _ _)))) | (with_reducible first | apply qAr | apply qAq | apply qAp | apply qAj | apply qBD | apply qAK | apply qA9) | ((with_reducible apply qBQ); (first | kernel_rfl | eq_refl)) | ((with_reducible first | apply rp | apply dr); first | ((with_reducible apply qAe); (conv => lhs; whnf)) | ((with_reducible first | apply qAg | apply qAi | apply qAY) <;> first | ((with_reducible apply tyOk); eq_refl) | eq_refl | decide) | ((with_reducible apply qAn); exact tyOk rfl; (iterate 3 eq_refl); exact qle rfl; eq_refl)) | ((with_reducible first | apply rpN | apply drN); first | ((with_reducible apply qBh); exact tyOk rfl; eq_refl; eq_refl; (conv => lhs; whnf); eq_refl; eq_refl; exact qle rfl) | ((with_reducible apply qAf); exact tyOk rfl; (iterate 5 eq_refl))) | ((with_reducible apply rpL); (refine qAa [] [] (ups := [(1000, .var 87 [.d (qAs T), .d (iD j)])]) rfl (p1) rfl (kpX rfl) rfl (insX rfl) (insQ rfl) rfl rfl rfl rfl rfl (insX rfl) rfl rfl); exact qAb _))
    (with_reducible apply qA8); (focus (repeat' (first | (with_reducible apply qAJ) | (with_reducible apply qAD) | ((with_reducible apply rv_cell); eq_refl; eq_refl; exact tyOk rfl; eq_refl; eq_refl) | ((with_reducible apply qAZ); eq_refl; eq_refl; exact tyOk rfl; eq_refl; eq_refl)))); eq_refl; refine SubD.of_eq ?_
    rfl
end Go.Proofs.YtlpnnnmdkglkcaaDoor

