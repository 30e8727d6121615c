/-
  chirographkeep.exprOf as a contract. No condition.
-/
import Derived.Test.YtlpnnnmdkglkcaaDoorZH
import Derived.Test.YtlpnnnmdkglkcaaDoorZG
set_option linter.unusedSimpArgs false
set_option linter.unusedVariables false
namespace Go.Proofs.YtlpnnnmdkglkcaaDoor
open Go.RowKit

set_option maxHeartbeats 1000000 in
theorem exprOf_pg (l : List Raw) (kind : Int) : ∃ (x : Ex) (n' : Nat), Gx (colsH l) (1 + (kind % 4).toNat) 4 x ∧ n' ≤ 16 ∧ PG Tryd.prog 22 [.d (qBo l), .d (iD kind)] [] [] (.tu [.d (.ag x.cs), .d (qBr (colsH l)), .px 2000 0]) []
    [(2000, .var 83 [.d (qBo (l.take 40)), .d (iD n'), .d (qBr (colsH l))])] := by
  have g1 := heapOf_pg l
  have hc := (colsF_ok (l.take (l.length % 4))).len
  have p4 := qAO kind 4 (by omega) (by omega)
  obtain ⟨u, hu⟩ : ∃ u : Nat, (kind % 4).toNat = u := ⟨_, rfl⟩
  rw [show kind % ((4 : Nat) : Int) = (u : Int) by omega] at p4
  have hu4 : u < 4 := by omega
  rw [hu]
  unfold colsH
  generalize colsF (l.take (l.length % 4)) = cols at *
  generalize l.take 40 = q at *
  obtain ⟨x, n', h1, _, h3, e1⟩ := expr_pc q cols (by omega) 3 (1 + u) 0 (by omega) (by omega) (by omega) (by decide)
  have h3 : n' + 1 ≤ 0 + 2 ^ 4 := h3
  refine ⟨x, n', h1, by omega, ?_⟩
  clear h1 h3 hc hu
  unfold hpB at *
  have hxl := x.cs_eq
  generalize x.cs = c at *
  subst hxl
  refine pg_of_aw Tryd.func22 rfl (by kernel_rfl) mixed (by kernel_rfl) (qle (by kernel_rfl)) Tryd.results22 rfl ?_
  repeat (first | (with_reducible first | apply qAr | apply qAq | apply qAp | apply qAj | apply qAK | apply xg_ret) | ((with_reducible apply rp); first | ((with_reducible apply qAc); eq_refl; eq_refl; exact (p4); eq_refl) | (exact qBe (z := ((1 + u : Nat) : Int)) rfl rfl (by omega) (by omega) (by omega)) | ((with_reducible apply qAe); (conv => lhs; whnf)) | ((with_reducible apply qAd); (conv => lhs; whnf)) | ((with_reducible apply qAg); exact tyOk rfl; eq_refl; eq_refl; decide; eq_refl) | ((with_reducible apply qAY); eq_refl)) | (refine aw_regW [(9, 2)] ?_) | ((with_reducible apply wrC); exact doesW_load (tyOk rfl) rfl rfl rfl rfl) | ((with_reducible apply wr); first | ((with_reducible apply qAc); eq_refl; eq_refl; exact (p4); eq_refl) | (exact qBe (z := ((1 + u : Nat) : Int)) rfl rfl (by omega) (by omega) (by omega)) | ((with_reducible apply qAe); (conv => lhs; whnf)) | ((with_reducible apply qAd); (conv => lhs; whnf)) | ((with_reducible apply qAg); exact tyOk rfl; eq_refl; eq_refl; decide; eq_refl) | ((with_reducible apply qAY); eq_refl)) | ((with_reducible apply wr1); (first | ((with_reducible apply qAh); exact tyOk rfl; eq_refl)); eq_refl) | ((with_reducible apply wrN); (first | ((with_reducible apply qAf); exact tyOk rfl; (iterate 5 eq_refl))); eq_refl) | ((with_reducible apply w_nil); first | kernel_rfl | eq_refl) | ((with_reducible apply wrL); (refine qDI [] [(2000, 9)] (ups := [(9, .var 83 [.d (qBo q), .d (iD 0), .d (qBr cols)])]) (v := (.px 9 0)) rfl (g1) rfl ?_ rfl ?_ ?_ rfl rfl rfl rfl rfl ?_ ?_ rfl rfl rfl; (focus repeat' (first | exact trivial | eq_refl | apply And.intro)); (iterate 4 (focus repeat' (first | exact trivial | exact qA5 rfl | apply And.intro)))); (first | exact qAb _ | exact qAm _ _ | exact qAk _ _ _ | exact qAl _ _ _ _); eq_refl) | ((with_reducible apply wrL); (refine qAa [(1000, 9)] [(1000, 9)] (ups := [(9, .var 83 [.d (qBo q), .d (iD n'), .d (qBr cols)])]) rfl (e1) rfl (kpX rfl) rfl (insX rfl) (insQ rfl) rfl rfl rfl rfl rfl (insX rfl) rfl rfl); (first | exact qAb _ | exact qAm _ _ | exact qAk _ _ _ | exact qAl _ _ _ _); eq_refl) | ((with_reducible apply rp1); ((with_reducible apply qAh); exact tyOk rfl; eq_refl)) | ((with_reducible first | apply rpN | apply drN); ((with_reducible apply qAf); exact tyOk rfl; (iterate 5 eq_refl))) | ((with_reducible apply rpL); (refine qDI [] [(2000, 9)] (ups := [(9, .var 83 [.d (qBo q), .d (iD 0), .d (qBr cols)])]) (v := (.px 9 0)) rfl (g1) rfl ?_ rfl ?_ ?_ rfl rfl rfl rfl rfl ?_ ?_ rfl rfl rfl; (focus repeat' (first | exact trivial | eq_refl | apply And.intro)); (iterate 4 (focus repeat' (first | exact trivial | exact qA5 rfl | apply And.intro)))); exact qAb _) | ((with_reducible apply rpL); (refine qAa [(1000, 9)] [(1000, 9)] (ups := [(9, .var 83 [.d (qBo q), .d (iD n'), .d (qBr cols)])]) rfl (e1) rfl (kpX rfl) rfl (insX rfl) (insQ rfl) rfl rfl rfl rfl rfl (insX rfl) rfl rfl); exact qAb _))
  (with_reducible apply retg_ok (l := [(2000, 9)])); (focus (repeat' (first | (with_reducible apply qAJ) | (with_reducible apply qAD) | ((with_reducible apply qBb); eq_refl) | ((with_reducible apply qAZ); eq_refl; eq_refl; exact tyOk rfl; eq_refl; eq_refl)))); rotate_left; refine ⟨(by repeat' exact qAX), (by repeat' (first | exact trivial | eq_refl | apply And.intro)), rfl, insS rfl, (by repeat' (first | exact trivial | apply And.intro))⟩; refine SubA.of_eq ?_
  rfl
end Go.Proofs.YtlpnnnmdkglkcaaDoor

