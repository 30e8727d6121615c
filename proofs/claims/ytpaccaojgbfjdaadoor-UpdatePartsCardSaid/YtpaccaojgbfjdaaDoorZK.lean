/-
  kinds.sort's methods, joined, of, Columns, Of as contracts. No condition but that the expression and the columns may be.
-/
import Derived.Test.YtpaccaojgbfjdaaDoorZX
import Derived.Test.YtpaccaojgbfjdaaDoorZG
set_option linter.unusedSimpArgs false
set_option linter.unusedVariables false
namespace Go.Proofs.YtpaccaojgbfjdaaDoor
open Go.RowKit

abbrev soD (s : So) : D := .ag [iD s.k, bD s.n]
theorem qF8 (s : So) (k : Int) : PC Tryd.prog 112 [soD s, iD k] (bD (s.fits k)) := by
  obtain ⟨e, sk, sn⟩ := s
  refine qAs Tryd.func112 rfl (by kernel_rfl) mixed (by kernel_rfl) (qle (by kernel_rfl)) Tryd.results112 ?_
  repeat (first | (with_reducible first | apply qAj | apply qAi | apply qAh | apply qAf | apply qAu | apply qAz) | ((first | (with_reducible apply rp) | ((with_reducible apply rpG); eq_refl; exact qAP rfl; (focus repeat' (first | exact trivial | exact id | apply And.intro)); intro zg; have zh := zg; (try simp only [zs1, zs2, zs3, zs4] at zg))); first | ((with_reducible first | apply qAd | apply qAa); (conv => lhs; whnf)) | ((with_reducible first | apply qAJ | apply qAc | apply qAe | apply qAr) <;> first | ((with_reducible apply tyOk); eq_refl) | eq_refl | exact id | decide)) | ((with_reducible apply rp1); ((with_reducible apply qAp); eq_refl; eq_refl)))
  (with_reducible apply qAA); (focus (repeat' (first | (with_reducible apply qAv) | (with_reducible apply qAq) | ((with_reducible apply qAD); eq_refl)))); eq_refl; refine SubD.of_eq ?_
  rfl
theorem with_pc (s t : So) : PC Tryd.prog 113 [soD s, soD t] (.ag [iD (qDk s t), bD (s.n || t.n)]) := by
  obtain ⟨e, sk, sn⟩ := s
  obtain ⟨e2, tk, tn⟩ := t
  unfold qDk
  dsimp only
  refine qAs Tryd.func113 rfl (by kernel_rfl) mixed (by kernel_rfl) (qle (by kernel_rfl)) Tryd.results113 ?_
  repeat (first | (with_reducible first | apply qAj | apply qAi | apply qAh | apply qAf) | ((with_reducible apply rp); first | ((with_reducible apply qAc); exact tyOk rfl; eq_refl; eq_refl; decide; eq_refl) | ((with_reducible apply qAe); exact tyOk rfl; (iterate 4 eq_refl)) | ((with_reducible apply qAr); eq_refl; eq_refl)) | ((with_reducible apply rp1); first | ((with_reducible apply qAp); eq_refl; eq_refl) | ((with_reducible apply qAk); exact tyOk rfl; eq_refl)))
  refine qAn rfl (fun hd => ?_) (fun hd => ?_)
  · have h0 : sk = 0 := by simpa using hd
    rw [if_pos h0]
    repeat (first | (with_reducible first | apply qAj | apply qAi | apply qAh | apply qAf | apply qAu | apply qAz) | ((first | (with_reducible apply rp) | ((with_reducible apply rpG); eq_refl; exact qAP rfl; (focus repeat' (first | exact trivial | exact id | apply And.intro)); intro zg; have zh := zg; (try simp only [zs1, zs2, zs3, zs4] at zg))); first | ((with_reducible apply qAd); (conv => lhs; whnf)) | ((with_reducible first | apply qAJ | apply qAc | apply qAe) <;> first | ((with_reducible apply tyOk); eq_refl) | eq_refl | exact id | decide) | ((with_reducible apply qAl); exact tyOk rfl; (iterate 3 eq_refl); exact qle rfl; eq_refl)) | ((with_reducible apply rpN); first | ((with_reducible apply qBj); exact tyOk rfl; eq_refl; eq_refl; (conv => lhs; whnf); eq_refl; eq_refl; exact qle rfl) | ((with_reducible apply qAb); exact tyOk rfl; (iterate 5 eq_refl))))
    (with_reducible apply qAA); (focus (repeat' (first | (with_reducible apply qAv) | (with_reducible apply qAq) | ((with_reducible apply qAy); eq_refl; eq_refl; exact tyOk rfl; eq_refl; eq_refl)))); eq_refl; refine SubD.of_eq ?_
    rfl
  · have h0 : ¬ sk = 0 := by simpa using hd
    rw [if_neg h0]
    repeat (first | (with_reducible first | apply qAj | apply qAi | apply qAh | apply qAf | apply qAu | apply qAz | apply qAm) | ((first | (with_reducible apply rp) | ((with_reducible apply rpG); eq_refl; exact qAP rfl; (focus repeat' (first | exact trivial | exact id | apply And.intro)); intro zg; have zh := zg; (try simp only [zs1, zs2, zs3, zs4] at zg))); first | ((with_reducible apply qAd); (conv => lhs; whnf)) | ((with_reducible first | apply qAJ | apply qAc | apply qAe) <;> first | ((with_reducible apply tyOk); eq_refl) | eq_refl | exact id | decide) | ((with_reducible apply qAl); exact tyOk rfl; (iterate 3 eq_refl); exact qle rfl; eq_refl)) | ((with_reducible apply rpN); first | ((with_reducible apply qBj); exact tyOk rfl; eq_refl; eq_refl; (conv => lhs; whnf); eq_refl; eq_refl; exact qle rfl) | ((with_reducible apply qAb); exact tyOk rfl; (iterate 5 eq_refl))))
    (with_reducible apply qAA); (focus (repeat' (first | (with_reducible apply qAv) | (with_reducible apply qAq) | ((with_reducible apply qAy); eq_refl; eq_refl; exact tyOk rfl; eq_refl; eq_refl)))); eq_refl; refine SubD.of_eq ?_
    rfl
set_option maxHeartbeats 2000000 in
theorem asks_1 (s t : So) (a g : Int) : PX Tryd.prog 111 [.d (iD a), .d (iD g), .px 1000 0, .px 1001 0]
    [(1000, .var 196 [.d (iD s.k), .d (bD s.n), .d (iD t.k), .d (bD t.n)]), (1001, .var 3 [.d (iD 1)])] [] (.tu [soD (askF s a g), iD (askF s a g).e])
    [(1000, .var 196 [.d (iD s.k), .d (bD s.n), .d (iD t.k), .d (bD t.n)]), (1001, .var 3 [.d (iD 1)])] [] := by
  have f1 := qF8 s a
  by_cases hf : s.fits a = true
  · have hr : askF s a g = ⟨0, g, s.n⟩ := if_pos hf
    rw [hr]
    rw [hf] at f1
    obtain ⟨e, sk, sn⟩ := s
    obtain ⟨e2, tk, tn⟩ := t
    dsimp only at *
    clear hf hr
    refine qBe Tryd.func111 rfl (by kernel_rfl) mixed (by kernel_rfl) (qle (by kernel_rfl)) Tryd.results111 rfl ?_
    repeat (first | (with_reducible first | apply qAj | apply qAi | apply qAh | apply qAf | apply qAo) | ((with_reducible apply rp); first | (exact qCc (h := 1) (tyOk rfl) rfl (by decide) rfl ⟨_, _, rfl, rfl⟩ (by omega)) | (exact qCu (tyOk rfl) rfl rfl) | ((with_reducible apply qAd); (conv => lhs; whnf)) | ((with_reducible apply qAa); (conv => lhs; whnf)) | ((with_reducible apply qAe); exact tyOk rfl; (iterate 4 eq_refl)) | ((with_reducible apply qAR); exact tyOk rfl; eq_refl; eq_refl; (focus repeat' (first | eq_refl | refine ⟨_, _, rfl, rfl, qle rfl, rfl, ?_⟩)); eq_refl)) | ((with_reducible apply rp1); ((with_reducible apply qAk); exact tyOk rfl; eq_refl)) | ((with_reducible apply rpN); ((with_reducible apply qAb); exact tyOk rfl; (iterate 5 eq_refl))))
    refine qBf (fun m st => (m = 1 ∧ st = ⟨[(0, .d (iD a)), (2, .px 1000 0), (3, .px 1001 0), (6, .px 6 0), (8, .px 8 0), (14, .sx 1000 1 2), (15, .d (iD 1)), (16, .d (iD 0))], [(6, .var 182 [.d (iD 0), .d (bD false)]), (8, .var 182 [.d (iD g), .d (bD false)]), (1000, .var 196 [.d (iD sk), .d (bD sn), .d (iD tk), .d (bD tn)]), (1001, .var 3 [.d (iD 1)])]⟩) ∨ (m = 0 ∧ st = ⟨[(0, .d (iD a)), (2, .px 1000 0), (3, .px 1001 0), (6, .px 6 0), (8, .px 8 0), (14, .sx 1000 1 2), (15, .d (iD 1)), (16, .d (iD 1))], [(6, .var 182 [.d (iD 0), .d (bD false)]), (8, .var 182 [.d (iD g), .d (bD (false || sn))]), (1000, .var 196 [.d (iD sk), .d (bD sn), .d (iD tk), .d (bD tn)]), (1001, .var 3 [.d (iD 1)])]⟩)) 1 _ ?_ (.inl ⟨rfl, rfl⟩) ?_
    · refine qAw [] (by repeat' (first | exact qAG | (refine qAx rfl (by exact SubA.refl _) ?_))) (kpX rfl) rfl (insS rfl) (insX rfl)
    · rintro m st (⟨rfl, rfl⟩ | ⟨rfl, rfl⟩)
      · repeat (first | (with_reducible first | apply qAj | apply qAi | apply qAh | apply qAf | apply qAo | apply qAF | apply qAm) | ((first | (with_reducible apply rp) | ((with_reducible apply rpG); eq_refl; exact qAP rfl; (focus repeat' (first | exact trivial | exact id | apply And.intro)); intro zg; have zh := zg; (try simp only [zs1, zs2, zs3, zs4] at zg))); first | (exact qBz (i := 0) (tyOk rfl) rfl (tyOk rfl) rfl rfl rfl (by omega) rfl) | ((with_reducible apply qAg); eq_refl; eq_refl; exact (f1); eq_refl) | ((with_reducible apply qAd); (conv => lhs; whnf)) | ((with_reducible first | apply qAJ | apply qAc | apply qAe | apply qAN | apply qAZ) <;> first | ((with_reducible apply tyOk); eq_refl) | eq_refl | exact id | decide) | ((with_reducible apply qAl); exact tyOk rfl; (iterate 3 eq_refl); exact qle rfl; eq_refl) | ((with_reducible apply qAI); eq_refl; eq_refl; omega; omega)) | ((with_reducible apply rp1); ((with_reducible apply qAk); exact tyOk rfl; eq_refl)) | ((with_reducible apply rpN); first | ((with_reducible apply qBj); exact tyOk rfl; eq_refl; eq_refl; (conv => lhs; whnf); eq_refl; eq_refl; exact qle rfl) | ((with_reducible apply qAb); exact tyOk rfl; (iterate 5 eq_refl))) | ((with_reducible apply qA6); eq_refl; eq_refl) | ((with_reducible apply qBq); eq_refl; eq_refl))
        refine ⟨0, _, by decide, ?_, (.inr ⟨rfl, rfl⟩)⟩
        refine qAw [] (by repeat' (first | exact qAG | (refine qAx rfl (by exact SubA.refl _) ?_))) (kpX rfl) rfl (insS rfl) (insX rfl)
      · repeat (first | (with_reducible first | apply qAj | apply qAi | apply qAh | apply qAf | apply qA5 | apply qA9 | apply qA8 | apply qAu | apply qBL) | ((with_reducible apply rp); first | ((with_reducible apply qAa); (conv => lhs; whnf)) | ((with_reducible apply qAl); exact tyOk rfl; (iterate 3 eq_refl); exact qle rfl; eq_refl) | ((with_reducible apply qAN); eq_refl; eq_refl)) | ((with_reducible apply rpN); ((with_reducible apply qAb); exact tyOk rfl; (iterate 5 eq_refl))) | ((with_reducible apply qA6); eq_refl; eq_refl))
        (with_reducible apply qBi (l := [])); (focus (repeat' (first | (with_reducible apply qAv) | (with_reducible apply qAq) | ((with_reducible apply qAD); eq_refl) | ((with_reducible apply qAy); eq_refl; eq_refl; exact tyOk rfl; eq_refl; eq_refl)))); eq_refl; exact SubD.refl _; refine ⟨(by repeat' (first | exact qAG | (refine qAx rfl (by exact SubA.refl _) ?_))), (by repeat' (first | exact trivial | eq_refl | apply And.intro)), rfl, insS rfl, (by repeat' (first | exact trivial | exact qAX rfl | apply And.intro))⟩
  · have hr : askF s a g = .bad 2 := if_neg hf
    rw [hr]
    rw [eq_false_of_ne_true hf] at f1
    obtain ⟨e, sk, sn⟩ := s
    obtain ⟨e2, tk, tn⟩ := t
    dsimp only at *
    clear hf hr
    refine qBe Tryd.func111 rfl (by kernel_rfl) mixed (by kernel_rfl) (qle (by kernel_rfl)) Tryd.results111 rfl ?_
    repeat (first | (with_reducible first | apply qAj | apply qAi | apply qAh | apply qAf | apply qAo) | ((with_reducible apply rp); first | (exact qCc (h := 1) (tyOk rfl) rfl (by decide) rfl ⟨_, _, rfl, rfl⟩ (by omega)) | (exact qCu (tyOk rfl) rfl rfl) | ((with_reducible apply qAd); (conv => lhs; whnf)) | ((with_reducible apply qAa); (conv => lhs; whnf)) | ((with_reducible apply qAe); exact tyOk rfl; (iterate 4 eq_refl)) | ((with_reducible apply qAR); exact tyOk rfl; eq_refl; eq_refl; (focus repeat' (first | eq_refl | refine ⟨_, _, rfl, rfl, qle rfl, rfl, ?_⟩)); eq_refl)) | ((with_reducible apply rp1); ((with_reducible apply qAk); exact tyOk rfl; eq_refl)) | ((with_reducible apply rpN); ((with_reducible apply qAb); exact tyOk rfl; (iterate 5 eq_refl))))
    refine qBf (fun m st => (m = 1 ∧ st = ⟨[(0, .d (iD a)), (2, .px 1000 0), (3, .px 1001 0), (6, .px 6 0), (8, .px 8 0), (14, .sx 1000 1 2), (15, .d (iD 1)), (16, .d (iD 0))], [(6, .var 182 [.d (iD 0), .d (bD false)]), (8, .var 182 [.d (iD g), .d (bD false)]), (1000, .var 196 [.d (iD sk), .d (bD sn), .d (iD tk), .d (bD tn)]), (1001, .var 3 [.d (iD 1)])]⟩)) 1 _ ?_ ⟨rfl, rfl⟩ ?_
    · refine qAw [] (by repeat' (first | exact qAG | (refine qAx rfl (by exact SubA.refl _) ?_))) (kpX rfl) rfl (insS rfl) (insX rfl)
    · rintro m st ⟨rfl, rfl⟩
      repeat (first | (with_reducible first | apply qAj | apply qAi | apply qAh | apply qAf | apply qAo | apply qAu | apply qAS | apply qBc | apply qBL | apply qAm) | ((with_reducible apply rp); first | (exact qBz (i := 0) (tyOk rfl) rfl (tyOk rfl) rfl rfl rfl (by omega) rfl) | ((with_reducible apply qAg); eq_refl; eq_refl; exact (f1); eq_refl) | ((with_reducible apply qAd); (conv => lhs; whnf)) | ((with_reducible apply qAa); (conv => lhs; whnf)) | ((with_reducible apply qAl); exact tyOk rfl; (iterate 3 eq_refl); exact qle rfl; eq_refl) | ((with_reducible apply qAN); eq_refl; eq_refl) | ((with_reducible apply qAZ); eq_refl) | ((with_reducible apply qAV); exact tyOk rfl; eq_refl; eq_refl)) | ((with_reducible apply rp1); ((with_reducible apply qAk); exact tyOk rfl; eq_refl)) | ((with_reducible apply rpN); ((with_reducible apply qAb); exact tyOk rfl; (iterate 5 eq_refl))) | ((with_reducible apply qBq); eq_refl; eq_refl))
      (with_reducible apply qBi (l := [])); (focus (repeat' (first | (with_reducible apply qAv) | (with_reducible apply qAq) | ((with_reducible apply qAD); eq_refl) | ((with_reducible apply qAy); eq_refl; eq_refl; exact tyOk rfl; eq_refl; eq_refl)))); eq_refl; exact SubD.refl _; refine ⟨(by repeat' (first | exact qAG | (refine qAx rfl (by exact SubA.refl _) ?_))), (by repeat' (first | exact trivial | eq_refl | apply And.intro)), rfl, insS rfl, (by repeat' (first | exact trivial | exact qAX rfl | apply And.intro))⟩
set_option maxHeartbeats 2000000 in
theorem qFO (s t : So) (a g : Int) : PX Tryd.prog 111 [.d (iD a), .d (iD g), .px 1000 0, .px 1001 0]
    [(1000, .var 196 [.d (iD s.k), .d (bD s.n), .d (iD t.k), .d (bD t.n)]), (1001, .var 3 [.d (iD 2)])] [] (.tu [soD (qF6 s t a g), iD (qF6 s t a g).e])
    [(1000, .var 196 [.d (iD s.k), .d (bD s.n), .d (iD t.k), .d (bD t.n)]), (1001, .var 3 [.d (iD 2)])] [] := by
  have f1 := qF8 s a
  have f2 := qF8 t a
  by_cases hf : s.fits a = true
  · by_cases hg : t.fits a = true
    · have hr : qF6 s t a g = ⟨0, g, s.n || t.n⟩ := if_pos (by rw [hf, hg]; rfl)
      rw [hr]
      rw [hf] at f1
      rw [hg] at f2
      obtain ⟨e, sk, sn⟩ := s
      obtain ⟨e2, tk, tn⟩ := t
      dsimp only at *
      clear hf hg hr
      refine qBe Tryd.func111 rfl (by kernel_rfl) mixed (by kernel_rfl) (qle (by kernel_rfl)) Tryd.results111 rfl ?_
      repeat (first | (with_reducible first | apply qAj | apply qAi | apply qAh | apply qAf | apply qAo) | ((with_reducible apply rp); first | (exact qCc (h := 2) (tyOk rfl) rfl (by decide) rfl ⟨_, _, rfl, rfl⟩ (by omega)) | (exact qCu (tyOk rfl) rfl rfl) | ((with_reducible apply qAd); (conv => lhs; whnf)) | ((with_reducible apply qAa); (conv => lhs; whnf)) | ((with_reducible apply qAe); exact tyOk rfl; (iterate 4 eq_refl)) | ((with_reducible apply qAR); exact tyOk rfl; eq_refl; eq_refl; (focus repeat' (first | eq_refl | refine ⟨_, _, rfl, rfl, qle rfl, rfl, ?_⟩)); eq_refl)) | ((with_reducible apply rp1); ((with_reducible apply qAk); exact tyOk rfl; eq_refl)) | ((with_reducible apply rpN); ((with_reducible apply qAb); exact tyOk rfl; (iterate 5 eq_refl))))
      refine qBf (fun m st => (m = 2 ∧ st = ⟨[(0, .d (iD a)), (2, .px 1000 0), (3, .px 1001 0), (6, .px 6 0), (8, .px 8 0), (14, .sx 1000 2 2), (15, .d (iD 2)), (16, .d (iD 0))], [(6, .var 182 [.d (iD 0), .d (bD false)]), (8, .var 182 [.d (iD g), .d (bD false)]), (1000, .var 196 [.d (iD sk), .d (bD sn), .d (iD tk), .d (bD tn)]), (1001, .var 3 [.d (iD 2)])]⟩) ∨ (m = 1 ∧ st = ⟨[(0, .d (iD a)), (2, .px 1000 0), (3, .px 1001 0), (6, .px 6 0), (8, .px 8 0), (14, .sx 1000 2 2), (15, .d (iD 2)), (16, .d (iD 1))], [(6, .var 182 [.d (iD 0), .d (bD false)]), (8, .var 182 [.d (iD g), .d (bD (false || sn))]), (1000, .var 196 [.d (iD sk), .d (bD sn), .d (iD tk), .d (bD tn)]), (1001, .var 3 [.d (iD 2)])]⟩) ∨ (m = 0 ∧ st = ⟨[(0, .d (iD a)), (2, .px 1000 0), (3, .px 1001 0), (6, .px 6 0), (8, .px 8 0), (14, .sx 1000 2 2), (15, .d (iD 2)), (16, .d (iD 2))], [(6, .var 182 [.d (iD 0), .d (bD false)]), (8, .var 182 [.d (iD g), .d (bD ((false || sn) || tn))]), (1000, .var 196 [.d (iD sk), .d (bD sn), .d (iD tk), .d (bD tn)]), (1001, .var 3 [.d (iD 2)])]⟩)) 2 _ ?_ (.inl ⟨rfl, rfl⟩) ?_
      · refine qAw [] (by repeat' (first | exact qAG | (refine qAx rfl (by exact SubA.refl _) ?_))) (kpX rfl) rfl (insS rfl) (insX rfl)
      · rintro m st (⟨rfl, rfl⟩ | ⟨rfl, rfl⟩ | ⟨rfl, rfl⟩)
        · repeat (first | (with_reducible first | apply qAj | apply qAi | apply qAh | apply qAf | apply qAo | apply qAF | apply qAm) | ((first | (with_reducible apply rp) | ((with_reducible apply rpG); eq_refl; exact qAP rfl; (focus repeat' (first | exact trivial | exact id | apply And.intro)); intro zg; have zh := zg; (try simp only [zs1, zs2, zs3, zs4] at zg))); first | (exact qBz (i := 0) (tyOk rfl) rfl (tyOk rfl) rfl rfl rfl (by omega) rfl) | ((with_reducible apply qAg); eq_refl; eq_refl; exact (f1); eq_refl) | ((with_reducible apply qAd); (conv => lhs; whnf)) | ((with_reducible first | apply qAJ | apply qAc | apply qAe | apply qAN | apply qAZ) <;> first | ((with_reducible apply tyOk); eq_refl) | eq_refl | exact id | decide) | ((with_reducible apply qAl); exact tyOk rfl; (iterate 3 eq_refl); exact qle rfl; eq_refl) | ((with_reducible apply qAI); eq_refl; eq_refl; omega; omega)) | ((with_reducible apply rp1); ((with_reducible apply qAk); exact tyOk rfl; eq_refl)) | ((with_reducible apply rpN); first | ((with_reducible apply qBj); exact tyOk rfl; eq_refl; eq_refl; (conv => lhs; whnf); eq_refl; eq_refl; exact qle rfl) | ((with_reducible apply qAb); exact tyOk rfl; (iterate 5 eq_refl))) | ((with_reducible apply qA6); eq_refl; eq_refl) | ((with_reducible apply qBq); eq_refl; eq_refl))
          refine ⟨1, _, by decide, ?_, (.inr (.inl ⟨rfl, rfl⟩))⟩
          refine qAw [] (by repeat' (first | exact qAG | (refine qAx rfl (by exact SubA.refl _) ?_))) (kpX rfl) rfl (insS rfl) (insX rfl)
        · repeat (first | (with_reducible first | apply qAj | apply qAi | apply qAh | apply qAf | apply qAo | apply qAF | apply qAm) | ((first | (with_reducible apply rp) | ((with_reducible apply rpG); eq_refl; exact qAP rfl; (focus repeat' (first | exact trivial | exact id | apply And.intro)); intro zg; have zh := zg; (try simp only [zs1, zs2, zs3, zs4] at zg))); first | (exact qBz (i := 1) (tyOk rfl) rfl (tyOk rfl) rfl rfl rfl (by omega) rfl) | ((with_reducible apply qAg); eq_refl; eq_refl; exact (f2); eq_refl) | ((with_reducible apply qAd); (conv => lhs; whnf)) | ((with_reducible first | apply qAJ | apply qAc | apply qAe | apply qAN | apply qAZ) <;> first | ((with_reducible apply tyOk); eq_refl) | eq_refl | exact id | decide) | ((with_reducible apply qAl); exact tyOk rfl; (iterate 3 eq_refl); exact qle rfl; eq_refl) | ((with_reducible apply qAI); eq_refl; eq_refl; omega; omega)) | ((with_reducible apply rp1); ((with_reducible apply qAk); exact tyOk rfl; eq_refl)) | ((with_reducible apply rpN); first | ((with_reducible apply qBj); exact tyOk rfl; eq_refl; eq_refl; (conv => lhs; whnf); eq_refl; eq_refl; exact qle rfl) | ((with_reducible apply qAb); exact tyOk rfl; (iterate 5 eq_refl))) | ((with_reducible apply qA6); eq_refl; eq_refl) | ((with_reducible apply qBq); eq_refl; eq_refl))
          refine ⟨0, _, by decide, ?_, (.inr (.inr ⟨rfl, rfl⟩))⟩
          refine qAw [] (by repeat' (first | exact qAG | (refine qAx rfl (by exact SubA.refl _) ?_))) (kpX rfl) rfl (insS rfl) (insX rfl)
        · repeat (first | (with_reducible first | apply qAj | apply qAi | apply qAh | apply qAf | apply qA5 | apply qA9 | apply qA8 | apply qAu | apply qBL) | ((with_reducible apply rp); first | ((with_reducible apply qAa); (conv => lhs; whnf)) | ((with_reducible apply qAl); exact tyOk rfl; (iterate 3 eq_refl); exact qle rfl; eq_refl) | ((with_reducible apply qAN); eq_refl; eq_refl)) | ((with_reducible apply rpN); ((with_reducible apply qAb); exact tyOk rfl; (iterate 5 eq_refl))) | ((with_reducible apply qA6); eq_refl; eq_refl))
          (with_reducible apply qBi (l := [])); (focus (repeat' (first | (with_reducible apply qAv) | (with_reducible apply qAq) | ((with_reducible apply qAD); eq_refl) | ((with_reducible apply qAy); eq_refl; eq_refl; exact tyOk rfl; eq_refl; eq_refl)))); eq_refl; exact SubD.refl _; refine ⟨(by repeat' (first | exact qAG | (refine qAx rfl (by exact SubA.refl _) ?_))), (by repeat' (first | exact trivial | eq_refl | apply And.intro)), rfl, insS rfl, (by repeat' (first | exact trivial | exact qAX rfl | apply And.intro))⟩
    · have hr : qF6 s t a g = .bad 2 := if_neg (by rw [eq_false_of_ne_true hg, Bool.and_false]; decide)
      rw [hr]
      rw [hf] at f1
      rw [eq_false_of_ne_true hg] at f2
      obtain ⟨e, sk, sn⟩ := s
      obtain ⟨e2, tk, tn⟩ := t
      dsimp only at *
      clear hf hg hr
      refine qBe Tryd.func111 rfl (by kernel_rfl) mixed (by kernel_rfl) (qle (by kernel_rfl)) Tryd.results111 rfl ?_
      repeat (first | (with_reducible first | apply qAj | apply qAi | apply qAh | apply qAf | apply qAo) | ((with_reducible apply rp); first | (exact qCc (h := 2) (tyOk rfl) rfl (by decide) rfl ⟨_, _, rfl, rfl⟩ (by omega)) | (exact qCu (tyOk rfl) rfl rfl) | ((with_reducible apply qAd); (conv => lhs; whnf)) | ((with_reducible apply qAa); (conv => lhs; whnf)) | ((with_reducible apply qAe); exact tyOk rfl; (iterate 4 eq_refl)) | ((with_reducible apply qAR); exact tyOk rfl; eq_refl; eq_refl; (focus repeat' (first | eq_refl | refine ⟨_, _, rfl, rfl, qle rfl, rfl, ?_⟩)); eq_refl)) | ((with_reducible apply rp1); ((with_reducible apply qAk); exact tyOk rfl; eq_refl)) | ((with_reducible apply rpN); ((with_reducible apply qAb); exact tyOk rfl; (iterate 5 eq_refl))))
      refine qBf (fun m st => (m = 2 ∧ st = ⟨[(0, .d (iD a)), (2, .px 1000 0), (3, .px 1001 0), (6, .px 6 0), (8, .px 8 0), (14, .sx 1000 2 2), (15, .d (iD 2)), (16, .d (iD 0))], [(6, .var 182 [.d (iD 0), .d (bD false)]), (8, .var 182 [.d (iD g), .d (bD false)]), (1000, .var 196 [.d (iD sk), .d (bD sn), .d (iD tk), .d (bD tn)]), (1001, .var 3 [.d (iD 2)])]⟩) ∨ (m = 1 ∧ st = ⟨[(0, .d (iD a)), (2, .px 1000 0), (3, .px 1001 0), (6, .px 6 0), (8, .px 8 0), (14, .sx 1000 2 2), (15, .d (iD 2)), (16, .d (iD 1))], [(6, .var 182 [.d (iD 0), .d (bD false)]), (8, .var 182 [.d (iD g), .d (bD (false || sn))]), (1000, .var 196 [.d (iD sk), .d (bD sn), .d (iD tk), .d (bD tn)]), (1001, .var 3 [.d (iD 2)])]⟩)) 2 _ ?_ (.inl ⟨rfl, rfl⟩) ?_
      · refine qAw [] (by repeat' (first | exact qAG | (refine qAx rfl (by exact SubA.refl _) ?_))) (kpX rfl) rfl (insS rfl) (insX rfl)
      · rintro m st (⟨rfl, rfl⟩ | ⟨rfl, rfl⟩)
        · repeat (first | (with_reducible first | apply qAj | apply qAi | apply qAh | apply qAf | apply qAo | apply qAF | apply qAm) | ((first | (with_reducible apply rp) | ((with_reducible apply rpG); eq_refl; exact qAP rfl; (focus repeat' (first | exact trivial | exact id | apply And.intro)); intro zg; have zh := zg; (try simp only [zs1, zs2, zs3, zs4] at zg))); first | (exact qBz (i := 0) (tyOk rfl) rfl (tyOk rfl) rfl rfl rfl (by omega) rfl) | ((with_reducible apply qAg); eq_refl; eq_refl; exact (f1); eq_refl) | ((with_reducible apply qAd); (conv => lhs; whnf)) | ((with_reducible first | apply qAJ | apply qAc | apply qAe | apply qAN | apply qAZ) <;> first | ((with_reducible apply tyOk); eq_refl) | eq_refl | exact id | decide) | ((with_reducible apply qAl); exact tyOk rfl; (iterate 3 eq_refl); exact qle rfl; eq_refl) | ((with_reducible apply qAI); eq_refl; eq_refl; omega; omega)) | ((with_reducible apply rp1); ((with_reducible apply qAk); exact tyOk rfl; eq_refl)) | ((with_reducible apply rpN); first | ((with_reducible apply qBj); exact tyOk rfl; eq_refl; eq_refl; (conv => lhs; whnf); eq_refl; eq_refl; exact qle rfl) | ((with_reducible apply qAb); exact tyOk rfl; (iterate 5 eq_refl))) | ((with_reducible apply qA6); eq_refl; eq_refl) | ((with_reducible apply qBq); eq_refl; eq_refl))
          refine ⟨1, _, by decide, ?_, (.inr ⟨rfl, rfl⟩)⟩
          refine qAw [] (by repeat' (first | exact qAG | (refine qAx rfl (by exact SubA.refl _) ?_))) (kpX rfl) rfl (insS rfl) (insX rfl)
        · repeat (first | (with_reducible first | apply qAj | apply qAi | apply qAh | apply qAf | apply qAo | apply qAu | apply qAS | apply qBc | apply qBL | apply qAm) | ((with_reducible apply rp); first | (exact qBz (i := 1) (tyOk rfl) rfl (tyOk rfl) rfl rfl rfl (by omega) rfl) | ((with_reducible apply qAg); eq_refl; eq_refl; exact (f2); eq_refl) | ((with_reducible apply qAd); (conv => lhs; whnf)) | ((with_reducible apply qAa); (conv => lhs; whnf)) | ((with_reducible apply qAl); exact tyOk rfl; (iterate 3 eq_refl); exact qle rfl; eq_refl) | ((with_reducible apply qAN); eq_refl; eq_refl) | ((with_reducible apply qAZ); eq_refl) | ((with_reducible apply qAV); exact tyOk rfl; eq_refl; eq_refl)) | ((with_reducible apply rp1); ((with_reducible apply qAk); exact tyOk rfl; eq_refl)) | ((with_reducible apply rpN); ((with_reducible apply qAb); exact tyOk rfl; (iterate 5 eq_refl))) | ((with_reducible apply qBq); eq_refl; eq_refl))
          (with_reducible apply qBi (l := [])); (focus (repeat' (first | (with_reducible apply qAv) | (with_reducible apply qAq) | ((with_reducible apply qAD); eq_refl) | ((with_reducible apply qAy); eq_refl; eq_refl; exact tyOk rfl; eq_refl; eq_refl)))); eq_refl; exact SubD.refl _; refine ⟨(by repeat' (first | exact qAG | (refine qAx rfl (by exact SubA.refl _) ?_))), (by repeat' (first | exact trivial | eq_refl | apply And.intro)), rfl, insS rfl, (by repeat' (first | exact trivial | exact qAX rfl | apply And.intro))⟩
  · have hr : qF6 s t a g = .bad 2 := if_neg (by rw [eq_false_of_ne_true hf, Bool.false_and]; decide)
    rw [hr]
    rw [eq_false_of_ne_true hf] at f1
    obtain ⟨e, sk, sn⟩ := s
    obtain ⟨e2, tk, tn⟩ := t
    dsimp only at *
    clear hf hr
    refine qBe Tryd.func111 rfl (by kernel_rfl) mixed (by kernel_rfl) (qle (by kernel_rfl)) Tryd.results111 rfl ?_
    repeat (first | (with_reducible first | apply qAj | apply qAi | apply qAh | apply qAf | apply qAo) | ((with_reducible apply rp); first | (exact qCc (h := 2) (tyOk rfl) rfl (by decide) rfl ⟨_, _, rfl, rfl⟩ (by omega)) | (exact qCu (tyOk rfl) rfl rfl) | ((with_reducible apply qAd); (conv => lhs; whnf)) | ((with_reducible apply qAa); (conv => lhs; whnf)) | ((with_reducible apply qAe); exact tyOk rfl; (iterate 4 eq_refl)) | ((with_reducible apply qAR); exact tyOk rfl; eq_refl; eq_refl; (focus repeat' (first | eq_refl | refine ⟨_, _, rfl, rfl, qle rfl, rfl, ?_⟩)); eq_refl)) | ((with_reducible apply rp1); ((with_reducible apply qAk); exact tyOk rfl; eq_refl)) | ((with_reducible apply rpN); ((with_reducible apply qAb); exact tyOk rfl; (iterate 5 eq_refl))))
    refine qBf (fun m st => (m = 2 ∧ st = ⟨[(0, .d (iD a)), (2, .px 1000 0), (3, .px 1001 0), (6, .px 6 0), (8, .px 8 0), (14, .sx 1000 2 2), (15, .d (iD 2)), (16, .d (iD 0))], [(6, .var 182 [.d (iD 0), .d (bD false)]), (8, .var 182 [.d (iD g), .d (bD false)]), (1000, .var 196 [.d (iD sk), .d (bD sn), .d (iD tk), .d (bD tn)]), (1001, .var 3 [.d (iD 2)])]⟩)) 2 _ ?_ ⟨rfl, rfl⟩ ?_
    · refine qAw [] (by repeat' (first | exact qAG | (refine qAx rfl (by exact SubA.refl _) ?_))) (kpX rfl) rfl (insS rfl) (insX rfl)
    · rintro m st ⟨rfl, rfl⟩
      repeat (first | (with_reducible first | apply qAj | apply qAi | apply qAh | apply qAf | apply qAo | apply qAu | apply qAS | apply qBc | apply qBL | apply qAm) | ((with_reducible apply rp); first | (exact qBz (i := 0) (tyOk rfl) rfl (tyOk rfl) rfl rfl rfl (by omega) rfl) | ((with_reducible apply qAg); eq_refl; eq_refl; exact (f1); eq_refl) | ((with_reducible apply qAd); (conv => lhs; whnf)) | ((with_reducible apply qAa); (conv => lhs; whnf)) | ((with_reducible apply qAl); exact tyOk rfl; (iterate 3 eq_refl); exact qle rfl; eq_refl) | ((with_reducible apply qAN); eq_refl; eq_refl) | ((with_reducible apply qAZ); eq_refl) | ((with_reducible apply qAV); exact tyOk rfl; eq_refl; eq_refl)) | ((with_reducible apply rp1); ((with_reducible apply qAk); exact tyOk rfl; eq_refl)) | ((with_reducible apply rpN); ((with_reducible apply qAb); exact tyOk rfl; (iterate 5 eq_refl))) | ((with_reducible apply qBq); eq_refl; eq_refl))
      (with_reducible apply qBi (l := [])); (focus (repeat' (first | (with_reducible apply qAv) | (with_reducible apply qAq) | ((with_reducible apply qAD); eq_refl) | ((with_reducible apply qAy); eq_refl; eq_refl; exact tyOk rfl; eq_refl; eq_refl)))); eq_refl; exact SubD.refl _; refine ⟨(by repeat' (first | exact qAG | (refine qAx rfl (by exact SubA.refl _) ?_))), (by repeat' (first | exact trivial | eq_refl | apply And.intro)), rfl, insS rfl, (by repeat' (first | exact trivial | exact qAX rfl | apply And.intro))⟩
end Go.Proofs.YtpaccaojgbfjdaaDoor


/-
  kinds.joined as a contract. No condition.
-/
namespace Go.Proofs.YtpaccaojgbfjdaaDoor
open Go.RowKit

set_option maxHeartbeats 1000000 in
theorem joined_3 (s t : So) : PC Tryd.prog 104 [iD 3, iD 1, .ag [iD s.k, bD s.n, iD t.k, bD t.n]] (.tu [soD (qDy 3 s), iD (qDy 3 s).e]) := by
  have a1 := asks_1 s t 2 2
  refine qAs Tryd.func104 rfl (by kernel_rfl) mixed (by kernel_rfl) (qle (by kernel_rfl)) Tryd.results104 ?_
  repeat (first | (with_reducible first | apply qAj | apply qAi | apply qAh | apply qAf | apply qAo | apply qAu | apply qAS | apply qBc | apply qAz | apply qAm) | ((with_reducible apply rp); first | ((with_reducible apply qAd); (conv => lhs; whnf)) | ((with_reducible apply qAa); (conv => lhs; whnf)) | ((with_reducible apply qAr); eq_refl; eq_refl) | ((with_reducible apply qAt); eq_refl; eq_refl) | ((with_reducible apply qBo); (focus repeat' (first | exact qBN rfl | (apply qBD; eq_refl; (conv => lhs; whnf)))); (focus repeat' (first | exact qBN rfl | (apply qBD; eq_refl; (conv => lhs; whnf)))))) | ((with_reducible apply rp1); first | ((with_reducible apply qAp); eq_refl; eq_refl) | ((with_reducible apply qBG); (conv => lhs; whnf); eq_refl; eq_refl) | ((with_reducible apply qAk); exact tyOk rfl; eq_refl)) | ((with_reducible apply rpN); ((with_reducible apply qAb); exact tyOk rfl; (iterate 5 eq_refl))) | ((with_reducible apply rpL); (refine qAC [(1000, 5), (1001, 4)] [(1000, 5), (1001, 4)] (ups := [(5, .var 196 [.d (iD s.k), .d (bD s.n), .d (iD t.k), .d (bD t.n)]), (4, .var 3 [.d (iD 1)])]) rfl (a1) rfl (kpX rfl) rfl (insX rfl) (insQ rfl) rfl rfl rfl rfl rfl (insX rfl) rfl rfl); exact qAB _) | ((with_reducible apply qBq); eq_refl; eq_refl))
  (with_reducible apply qAA); (focus (repeat' (first | (with_reducible apply qAv) | (with_reducible apply qAq) | ((with_reducible apply qAD); eq_refl) | ((with_reducible apply qAy); eq_refl; eq_refl; exact tyOk rfl; eq_refl; eq_refl)))); eq_refl; refine SubD.of_eq ?_
  rfl
set_option maxHeartbeats 1000000 in
theorem joined_4 (s t : So) : PC Tryd.prog 104 [iD 4, iD 1, .ag [iD s.k, bD s.n, iD t.k, bD t.n]] (.tu [soD (qDy 4 s), iD (qDy 4 s).e]) := by
  have a1 := asks_1 s t 1 1
  refine qAs Tryd.func104 rfl (by kernel_rfl) mixed (by kernel_rfl) (qle (by kernel_rfl)) Tryd.results104 ?_
  repeat (first | (with_reducible first | apply qAj | apply qAi | apply qAh | apply qAf | apply qAo | apply qAu | apply qAS | apply qBc | apply qAz | apply qAm) | ((with_reducible apply rp); first | ((with_reducible apply qAd); (conv => lhs; whnf)) | ((with_reducible apply qAa); (conv => lhs; whnf)) | ((with_reducible apply qAr); eq_refl; eq_refl) | ((with_reducible apply qAt); eq_refl; eq_refl) | ((with_reducible apply qBo); (focus repeat' (first | exact qBN rfl | (apply qBD; eq_refl; (conv => lhs; whnf)))); (focus repeat' (first | exact qBN rfl | (apply qBD; eq_refl; (conv => lhs; whnf)))))) | ((with_reducible apply rp1); first | ((with_reducible apply qAp); eq_refl; eq_refl) | ((with_reducible apply qBG); (conv => lhs; whnf); eq_refl; eq_refl) | ((with_reducible apply qAk); exact tyOk rfl; eq_refl)) | ((with_reducible apply rpN); ((with_reducible apply qAb); exact tyOk rfl; (iterate 5 eq_refl))) | ((with_reducible apply rpL); (refine qAC [(1000, 5), (1001, 4)] [(1000, 5), (1001, 4)] (ups := [(5, .var 196 [.d (iD s.k), .d (bD s.n), .d (iD t.k), .d (bD t.n)]), (4, .var 3 [.d (iD 1)])]) rfl (a1) rfl (kpX rfl) rfl (insX rfl) (insQ rfl) rfl rfl rfl rfl rfl (insX rfl) rfl rfl); exact qAB _) | ((with_reducible apply qA6); eq_refl; eq_refl) | ((with_reducible apply qBq); eq_refl; eq_refl))
  (with_reducible apply qAA); (focus (repeat' (first | (with_reducible apply qAv) | (with_reducible apply qAq) | ((with_reducible apply qAD); eq_refl) | ((with_reducible apply qAy); eq_refl; eq_refl; exact tyOk rfl; eq_refl; eq_refl)))); eq_refl; refine SubD.of_eq ?_
  rfl
set_option maxHeartbeats 1000000 in
theorem joined_18 (s t : So) : PC Tryd.prog 104 [iD 18, iD 1, .ag [iD s.k, bD s.n, iD t.k, bD t.n]] (.tu [soD (qDy 18 s), iD (qDy 18 s).e]) := by
  have a1 := asks_1 s t 4 2
  refine qAs Tryd.func104 rfl (by kernel_rfl) mixed (by kernel_rfl) (qle (by kernel_rfl)) Tryd.results104 ?_
  repeat (first | (with_reducible first | apply qAj | apply qAi | apply qAh | apply qAf | apply qAo | apply qAu | apply qAS | apply qBc | apply qAz) | ((with_reducible apply rp); first | ((with_reducible apply qAd); (conv => lhs; whnf)) | ((with_reducible apply qAa); (conv => lhs; whnf)) | ((with_reducible apply qAr); eq_refl; eq_refl) | ((with_reducible apply qAt); eq_refl; eq_refl) | ((with_reducible apply qBo); (focus repeat' (first | exact qBN rfl | (apply qBD; eq_refl; (conv => lhs; whnf)))); (focus repeat' (first | exact qBN rfl | (apply qBD; eq_refl; (conv => lhs; whnf)))))) | ((with_reducible apply rp1); first | ((with_reducible apply qAp); eq_refl; eq_refl) | ((with_reducible apply qBG); (conv => lhs; whnf); eq_refl; eq_refl) | ((with_reducible apply qAk); exact tyOk rfl; eq_refl)) | ((with_reducible apply rpN); ((with_reducible apply qAb); exact tyOk rfl; (iterate 5 eq_refl))) | ((with_reducible apply rpL); (refine qAC [(1000, 5), (1001, 4)] [(1000, 5), (1001, 4)] (ups := [(5, .var 196 [.d (iD s.k), .d (bD s.n), .d (iD t.k), .d (bD t.n)]), (4, .var 3 [.d (iD 1)])]) rfl (a1) rfl (kpX rfl) rfl (insX rfl) (insQ rfl) rfl rfl rfl rfl rfl (insX rfl) rfl rfl); exact qAB _) | ((with_reducible apply qA6); eq_refl; eq_refl) | ((with_reducible apply qBq); eq_refl; eq_refl))
  (with_reducible apply qAA); (focus (repeat' (first | (with_reducible apply qAv) | (with_reducible apply qAq) | ((with_reducible apply qAD); eq_refl) | ((with_reducible apply qAy); eq_refl; eq_refl; exact tyOk rfl; eq_refl; eq_refl)))); eq_refl; refine SubD.of_eq ?_
  rfl
set_option maxHeartbeats 1000000 in
theorem joined_17 (s t : So) : PC Tryd.prog 104 [iD 17, iD 1, .ag [iD s.k, bD s.n, iD t.k, bD t.n]] (.tu [soD (qDy 17 s), iD (qDy 17 s).e]) := by
  refine qAs Tryd.func104 rfl (by kernel_rfl) mixed (by kernel_rfl) (qle (by kernel_rfl)) Tryd.results104 ?_
  repeat (first | (with_reducible first | apply qAj | apply qAi | apply qAh | apply qAf | apply qAo | apply qAu | apply qAS | apply qBc | apply qAz) | ((with_reducible apply rp); first | ((with_reducible apply qAd); (conv => lhs; whnf)) | ((with_reducible apply qAa); (conv => lhs; whnf)) | ((with_reducible apply qAr); eq_refl; eq_refl) | ((with_reducible apply qAR); exact tyOk rfl; eq_refl; eq_refl; (focus repeat' (first | eq_refl | refine ⟨_, _, rfl, rfl, qle rfl, rfl, ?_⟩)); eq_refl) | ((with_reducible apply qBo); (focus repeat' (first | exact qBN rfl | (apply qBD; eq_refl; (conv => lhs; whnf)))); (focus repeat' (first | exact qBN rfl | (apply qBD; eq_refl; (conv => lhs; whnf)))))) | ((with_reducible apply rp1); first | ((with_reducible apply qAp); eq_refl; eq_refl) | ((with_reducible apply qBG); (conv => lhs; whnf); eq_refl; eq_refl) | ((with_reducible apply qAk); exact tyOk rfl; eq_refl)) | ((with_reducible apply rpN); ((with_reducible apply qAb); exact tyOk rfl; (iterate 5 eq_refl))) | ((with_reducible apply qA6); eq_refl; eq_refl) | ((with_reducible apply qBq); eq_refl; eq_refl))
  (with_reducible apply qAA); (focus (repeat' (first | (with_reducible apply qAv) | (with_reducible apply qAq) | ((with_reducible apply qAD); eq_refl) | ((with_reducible apply qAy); eq_refl; eq_refl; exact tyOk rfl; eq_refl; eq_refl)))); eq_refl; refine SubD.of_eq ?_
  rfl
set_option maxHeartbeats 1000000 in
theorem joined_5 (s t : So) : PC Tryd.prog 104 [iD 5, iD 2, .ag [iD s.k, bD s.n, iD t.k, bD t.n]] (.tu [soD (qCa 5 s t), iD (qCa 5 s t).e]) := by
  have a1 := qFO s t 2 2
  refine qAs Tryd.func104 rfl (by kernel_rfl) mixed (by kernel_rfl) (qle (by kernel_rfl)) Tryd.results104 ?_
  repeat (first | (with_reducible first | apply qAj | apply qAi | apply qAh | apply qAf | apply qAo | apply qAu | apply qAS | apply qBc | apply qAz | apply qAm) | ((with_reducible apply rp); first | ((with_reducible apply qAd); (conv => lhs; whnf)) | ((with_reducible apply qAa); (conv => lhs; whnf)) | ((with_reducible apply qAr); eq_refl; eq_refl) | ((with_reducible apply qAt); eq_refl; eq_refl) | ((with_reducible apply qBo); (focus repeat' (first | exact qBN rfl | (apply qBD; eq_refl; (conv => lhs; whnf)))); (focus repeat' (first | exact qBN rfl | (apply qBD; eq_refl; (conv => lhs; whnf)))))) | ((with_reducible apply rp1); first | ((with_reducible apply qAp); eq_refl; eq_refl) | ((with_reducible apply qBG); (conv => lhs; whnf); eq_refl; eq_refl) | ((with_reducible apply qAk); exact tyOk rfl; eq_refl)) | ((with_reducible apply rpN); ((with_reducible apply qAb); exact tyOk rfl; (iterate 5 eq_refl))) | ((with_reducible apply rpL); (refine qAC [(1000, 5), (1001, 4)] [(1000, 5), (1001, 4)] (ups := [(5, .var 196 [.d (iD s.k), .d (bD s.n), .d (iD t.k), .d (bD t.n)]), (4, .var 3 [.d (iD 2)])]) rfl (a1) rfl (kpX rfl) rfl (insX rfl) (insQ rfl) rfl rfl rfl rfl rfl (insX rfl) rfl rfl); exact qAB _) | ((with_reducible apply qA6); eq_refl; eq_refl) | ((with_reducible apply qBq); eq_refl; eq_refl))
  (with_reducible apply qAA); (focus (repeat' (first | (with_reducible apply qAv) | (with_reducible apply qAq) | ((with_reducible apply qAD); eq_refl) | ((with_reducible apply qAy); eq_refl; eq_refl; exact tyOk rfl; eq_refl; eq_refl)))); eq_refl; refine SubD.of_eq ?_
  rfl
set_option maxHeartbeats 1000000 in
theorem joined_6 (s t : So) : PC Tryd.prog 104 [iD 6, iD 2, .ag [iD s.k, bD s.n, iD t.k, bD t.n]] (.tu [soD (qCa 6 s t), iD (qCa 6 s t).e]) := by
  have a1 := qFO s t 2 2
  refine qAs Tryd.func104 rfl (by kernel_rfl) mixed (by kernel_rfl) (qle (by kernel_rfl)) Tryd.results104 ?_
  repeat (first | (with_reducible first | apply qAj | apply qAi | apply qAh | apply qAf | apply qAo | apply qAu | apply qAS | apply qBc | apply qAz | apply qAm) | ((with_reducible apply rp); first | ((with_reducible apply qAd); (conv => lhs; whnf)) | ((with_reducible apply qAa); (conv => lhs; whnf)) | ((with_reducible apply qAr); eq_refl; eq_refl) | ((with_reducible apply qAt); eq_refl; eq_refl) | ((with_reducible apply qBo); (focus repeat' (first | exact qBN rfl | (apply qBD; eq_refl; (conv => lhs; whnf)))); (focus repeat' (first | exact qBN rfl | (apply qBD; eq_refl; (conv => lhs; whnf)))))) | ((with_reducible apply rp1); first | ((with_reducible apply qAp); eq_refl; eq_refl) | ((with_reducible apply qBG); (conv => lhs; whnf); eq_refl; eq_refl) | ((with_reducible apply qAk); exact tyOk rfl; eq_refl)) | ((with_reducible apply rpN); ((with_reducible apply qAb); exact tyOk rfl; (iterate 5 eq_refl))) | ((with_reducible apply rpL); (refine qAC [(1000, 5), (1001, 4)] [(1000, 5), (1001, 4)] (ups := [(5, .var 196 [.d (iD s.k), .d (bD s.n), .d (iD t.k), .d (bD t.n)]), (4, .var 3 [.d (iD 2)])]) rfl (a1) rfl (kpX rfl) rfl (insX rfl) (insQ rfl) rfl rfl rfl rfl rfl (insX rfl) rfl rfl); exact qAB _) | ((with_reducible apply qA6); eq_refl; eq_refl) | ((with_reducible apply qBq); eq_refl; eq_refl))
  (with_reducible apply qAA); (focus (repeat' (first | (with_reducible apply qAv) | (with_reducible apply qAq) | ((with_reducible apply qAD); eq_refl) | ((with_reducible apply qAy); eq_refl; eq_refl; exact tyOk rfl; eq_refl; eq_refl)))); eq_refl; refine SubD.of_eq ?_
  rfl
set_option maxHeartbeats 1000000 in
theorem joined_7 (s t : So) : PC Tryd.prog 104 [iD 7, iD 2, .ag [iD s.k, bD s.n, iD t.k, bD t.n]] (.tu [soD (qCa 7 s t), iD (qCa 7 s t).e]) := by
  have a1 := qFO s t 2 2
  refine qAs Tryd.func104 rfl (by kernel_rfl) mixed (by kernel_rfl) (qle (by kernel_rfl)) Tryd.results104 ?_
  repeat (first | (with_reducible first | apply qAj | apply qAi | apply qAh | apply qAf | apply qAo | apply qAu | apply qAS | apply qBc | apply qAz | apply qAm) | ((with_reducible apply rp); first | ((with_reducible apply qAd); (conv => lhs; whnf)) | ((with_reducible apply qAa); (conv => lhs; whnf)) | ((with_reducible apply qAr); eq_refl; eq_refl) | ((with_reducible apply qAt); eq_refl; eq_refl) | ((with_reducible apply qBo); (focus repeat' (first | exact qBN rfl | (apply qBD; eq_refl; (conv => lhs; whnf)))); (focus repeat' (first | exact qBN rfl | (apply qBD; eq_refl; (conv => lhs; whnf)))))) | ((with_reducible apply rp1); first | ((with_reducible apply qAp); eq_refl; eq_refl) | ((with_reducible apply qBG); (conv => lhs; whnf); eq_refl; eq_refl) | ((with_reducible apply qAk); exact tyOk rfl; eq_refl)) | ((with_reducible apply rpN); ((with_reducible apply qAb); exact tyOk rfl; (iterate 5 eq_refl))) | ((with_reducible apply rpL); (refine qAC [(1000, 5), (1001, 4)] [(1000, 5), (1001, 4)] (ups := [(5, .var 196 [.d (iD s.k), .d (bD s.n), .d (iD t.k), .d (bD t.n)]), (4, .var 3 [.d (iD 2)])]) rfl (a1) rfl (kpX rfl) rfl (insX rfl) (insQ rfl) rfl rfl rfl rfl rfl (insX rfl) rfl rfl); exact qAB _) | ((with_reducible apply qA6); eq_refl; eq_refl) | ((with_reducible apply qBq); eq_refl; eq_refl))
  (with_reducible apply qAA); (focus (repeat' (first | (with_reducible apply qAv) | (with_reducible apply qAq) | ((with_reducible apply qAD); eq_refl) | ((with_reducible apply qAy); eq_refl; eq_refl; exact tyOk rfl; eq_refl; eq_refl)))); eq_refl; refine SubD.of_eq ?_
  rfl
set_option maxHeartbeats 1000000 in
theorem joined_8 (s t : So) : PC Tryd.prog 104 [iD 8, iD 2, .ag [iD s.k, bD s.n, iD t.k, bD t.n]] (.tu [soD (qCa 8 s t), iD (qCa 8 s t).e]) := by
  have a1 := qFO s t 2 2
  refine qAs Tryd.func104 rfl (by kernel_rfl) mixed (by kernel_rfl) (qle (by kernel_rfl)) Tryd.results104 ?_
  repeat (first | (with_reducible first | apply qAj | apply qAi | apply qAh | apply qAf | apply qAo | apply qAu | apply qAS | apply qBc | apply qAz) | ((with_reducible apply rp); first | ((with_reducible apply qAd); (conv => lhs; whnf)) | ((with_reducible apply qAa); (conv => lhs; whnf)) | ((with_reducible apply qAr); eq_refl; eq_refl) | ((with_reducible apply qAt); eq_refl; eq_refl) | ((with_reducible apply qBo); (focus repeat' (first | exact qBN rfl | (apply qBD; eq_refl; (conv => lhs; whnf)))); (focus repeat' (first | exact qBN rfl | (apply qBD; eq_refl; (conv => lhs; whnf)))))) | ((with_reducible apply rp1); first | ((with_reducible apply qAp); eq_refl; eq_refl) | ((with_reducible apply qBG); (conv => lhs; whnf); eq_refl; eq_refl) | ((with_reducible apply qAk); exact tyOk rfl; eq_refl)) | ((with_reducible apply rpN); ((with_reducible apply qAb); exact tyOk rfl; (iterate 5 eq_refl))) | ((with_reducible apply rpL); (refine qAC [(1000, 5), (1001, 4)] [(1000, 5), (1001, 4)] (ups := [(5, .var 196 [.d (iD s.k), .d (bD s.n), .d (iD t.k), .d (bD t.n)]), (4, .var 3 [.d (iD 2)])]) rfl (a1) rfl (kpX rfl) rfl (insX rfl) (insQ rfl) rfl rfl rfl rfl rfl (insX rfl) rfl rfl); exact qAB _) | ((with_reducible apply qA6); eq_refl; eq_refl) | ((with_reducible apply qBq); eq_refl; eq_refl))
  (with_reducible apply qAA); (focus (repeat' (first | (with_reducible apply qAv) | (with_reducible apply qAq) | ((with_reducible apply qAD); eq_refl) | ((with_reducible apply qAy); eq_refl; eq_refl; exact tyOk rfl; eq_refl; eq_refl)))); eq_refl; refine SubD.of_eq ?_
  rfl
set_option maxHeartbeats 1000000 in
theorem joined_15 (s t : So) : PC Tryd.prog 104 [iD 15, iD 2, .ag [iD s.k, bD s.n, iD t.k, bD t.n]] (.tu [soD (qCa 15 s t), iD (qCa 15 s t).e]) := by
  have a1 := qFO s t 1 1
  refine qAs Tryd.func104 rfl (by kernel_rfl) mixed (by kernel_rfl) (qle (by kernel_rfl)) Tryd.results104 ?_
  repeat (first | (with_reducible first | apply qAj | apply qAi | apply qAh | apply qAf | apply qAo | apply qAu | apply qAS | apply qBc | apply qAz | apply qAm) | ((with_reducible apply rp); first | ((with_reducible apply qAd); (conv => lhs; whnf)) | ((with_reducible apply qAa); (conv => lhs; whnf)) | ((with_reducible apply qAr); eq_refl; eq_refl) | ((with_reducible apply qAt); eq_refl; eq_refl) | ((with_reducible apply qBo); (focus repeat' (first | exact qBN rfl | (apply qBD; eq_refl; (conv => lhs; whnf)))); (focus repeat' (first | exact qBN rfl | (apply qBD; eq_refl; (conv => lhs; whnf)))))) | ((with_reducible apply rp1); first | ((with_reducible apply qAp); eq_refl; eq_refl) | ((with_reducible apply qBG); (conv => lhs; whnf); eq_refl; eq_refl) | ((with_reducible apply qAk); exact tyOk rfl; eq_refl)) | ((with_reducible apply rpN); ((with_reducible apply qAb); exact tyOk rfl; (iterate 5 eq_refl))) | ((with_reducible apply rpL); (refine qAC [(1000, 5), (1001, 4)] [(1000, 5), (1001, 4)] (ups := [(5, .var 196 [.d (iD s.k), .d (bD s.n), .d (iD t.k), .d (bD t.n)]), (4, .var 3 [.d (iD 2)])]) rfl (a1) rfl (kpX rfl) rfl (insX rfl) (insQ rfl) rfl rfl rfl rfl rfl (insX rfl) rfl rfl); exact qAB _) | ((with_reducible apply qA6); eq_refl; eq_refl) | ((with_reducible apply qBq); eq_refl; eq_refl))
  (with_reducible apply qAA); (focus (repeat' (first | (with_reducible apply qAv) | (with_reducible apply qAq) | ((with_reducible apply qAD); eq_refl) | ((with_reducible apply qAy); eq_refl; eq_refl; exact tyOk rfl; eq_refl; eq_refl)))); eq_refl; refine SubD.of_eq ?_
  rfl
set_option maxHeartbeats 1000000 in
theorem joined_16 (s t : So) : PC Tryd.prog 104 [iD 16, iD 2, .ag [iD s.k, bD s.n, iD t.k, bD t.n]] (.tu [soD (qCa 16 s t), iD (qCa 16 s t).e]) := by
  have a1 := qFO s t 1 1
  refine qAs Tryd.func104 rfl (by kernel_rfl) mixed (by kernel_rfl) (qle (by kernel_rfl)) Tryd.results104 ?_
  repeat (first | (with_reducible first | apply qAj | apply qAi | apply qAh | apply qAf | apply qAo | apply qAu | apply qAS | apply qBc | apply qAz) | ((with_reducible apply rp); first | ((with_reducible apply qAd); (conv => lhs; whnf)) | ((with_reducible apply qAa); (conv => lhs; whnf)) | ((with_reducible apply qAr); eq_refl; eq_refl) | ((with_reducible apply qAt); eq_refl; eq_refl) | ((with_reducible apply qBo); (focus repeat' (first | exact qBN rfl | (apply qBD; eq_refl; (conv => lhs; whnf)))); (focus repeat' (first | exact qBN rfl | (apply qBD; eq_refl; (conv => lhs; whnf)))))) | ((with_reducible apply rp1); first | ((with_reducible apply qAp); eq_refl; eq_refl) | ((with_reducible apply qBG); (conv => lhs; whnf); eq_refl; eq_refl) | ((with_reducible apply qAk); exact tyOk rfl; eq_refl)) | ((with_reducible apply rpN); ((with_reducible apply qAb); exact tyOk rfl; (iterate 5 eq_refl))) | ((with_reducible apply rpL); (refine qAC [(1000, 5), (1001, 4)] [(1000, 5), (1001, 4)] (ups := [(5, .var 196 [.d (iD s.k), .d (bD s.n), .d (iD t.k), .d (bD t.n)]), (4, .var 3 [.d (iD 2)])]) rfl (a1) rfl (kpX rfl) rfl (insX rfl) (insQ rfl) rfl rfl rfl rfl rfl (insX rfl) rfl rfl); exact qAB _) | ((with_reducible apply qA6); eq_refl; eq_refl) | ((with_reducible apply qBq); eq_refl; eq_refl))
  (with_reducible apply qAA); (focus (repeat' (first | (with_reducible apply qAv) | (with_reducible apply qAq) | ((with_reducible apply qAD); eq_refl) | ((with_reducible apply qAy); eq_refl; eq_refl; exact tyOk rfl; eq_refl; eq_refl)))); eq_refl; refine SubD.of_eq ?_
  rfl
set_option maxHeartbeats 1000000 in
theorem joined_19 (s t : So) : PC Tryd.prog 104 [iD 19, iD 2, .ag [iD s.k, bD s.n, iD t.k, bD t.n]] (.tu [soD (qCa 19 s t), iD (qCa 19 s t).e]) := by
  have a1 := qFO s t 4 4
  refine qAs Tryd.func104 rfl (by kernel_rfl) mixed (by kernel_rfl) (qle (by kernel_rfl)) Tryd.results104 ?_
  repeat (first | (with_reducible first | apply qAj | apply qAi | apply qAh | apply qAf | apply qAo | apply qAu | apply qAS | apply qBc | apply qAz) | ((with_reducible apply rp); first | ((with_reducible apply qAd); (conv => lhs; whnf)) | ((with_reducible apply qAa); (conv => lhs; whnf)) | ((with_reducible apply qAr); eq_refl; eq_refl) | ((with_reducible apply qAt); eq_refl; eq_refl) | ((with_reducible apply qBo); (focus repeat' (first | exact qBN rfl | (apply qBD; eq_refl; (conv => lhs; whnf)))); (focus repeat' (first | exact qBN rfl | (apply qBD; eq_refl; (conv => lhs; whnf)))))) | ((with_reducible apply rp1); first | ((with_reducible apply qAp); eq_refl; eq_refl) | ((with_reducible apply qBG); (conv => lhs; whnf); eq_refl; eq_refl) | ((with_reducible apply qAk); exact tyOk rfl; eq_refl)) | ((with_reducible apply rpN); ((with_reducible apply qAb); exact tyOk rfl; (iterate 5 eq_refl))) | ((with_reducible apply rpL); (refine qAC [(1000, 5), (1001, 4)] [(1000, 5), (1001, 4)] (ups := [(5, .var 196 [.d (iD s.k), .d (bD s.n), .d (iD t.k), .d (bD t.n)]), (4, .var 3 [.d (iD 2)])]) rfl (a1) rfl (kpX rfl) rfl (insX rfl) (insQ rfl) rfl rfl rfl rfl rfl (insX rfl) rfl rfl); exact qAB _) | ((with_reducible apply qA6); eq_refl; eq_refl) | ((with_reducible apply qBq); eq_refl; eq_refl))
  (with_reducible apply qAA); (focus (repeat' (first | (with_reducible apply qAv) | (with_reducible apply qAq) | ((with_reducible apply qAD); eq_refl) | ((with_reducible apply qAy); eq_refl; eq_refl; exact tyOk rfl; eq_refl; eq_refl)))); eq_refl; refine SubD.of_eq ?_
  rfl
theorem join_rest (op : Nat) (h : 9 ≤ op ∧ op ≤ 14 ∨ op = 20) (s t : So) : qCa op s t = if (s.fits (qDk s t) && t.fits (qDk s t)) = true then (if op = 20 then ⟨0, qDk s t, s.n && t.n⟩ else ⟨0, 1, s.n || t.n⟩) else .bad 2 := by
  unfold qCa
  rw [if_neg (by omega), if_neg (by omega), if_neg (by omega)]
set_option maxHeartbeats 1000000 in
theorem joined_rest (op : Nat) (h : 9 ≤ op ∧ op ≤ 14 ∨ op = 20) (s t : So) : PC Tryd.prog 104 [iD op, iD 2, .ag [iD s.k, bD s.n, iD t.k, bD t.n]] (.tu [soD (qCa op s t), iD (qCa op s t).e]) := by
  have w1 := with_pc s t
  have f1 := qF8 s (qDk s t)
  have f2 := qF8 t (qDk s t)
  rw [join_rest op h s t]
  have hop : ((op : Int) == 20) = decide (op = 20) := by rw [Bool.eq_iff_iff, beq_iff_eq, decide_eq_true_eq]; omega
  by_cases hs : s.fits (qDk s t) = true
  · rw [hs] at f1
    by_cases ht : t.fits (qDk s t) = true
    · rw [ht] at f2
      rw [if_pos (by rw [hs, ht]; rfl)]
      generalize qDk s t = bk at *
      refine qAs Tryd.func104 rfl (by kernel_rfl) mixed (by kernel_rfl) (qle (by kernel_rfl)) Tryd.results104 ?_
      repeat (first | (with_reducible first | apply qAj | apply qAi | apply qAh | apply qAf | apply qAo | apply qAF | apply qAm) | ((first | (with_reducible apply rp) | ((with_reducible apply rpG); eq_refl; exact qAP rfl; (focus repeat' (first | exact trivial | exact id | apply And.intro)); intro zg; have zh := zg; (try simp only [zs1, zs2, zs3, zs4] at zg))); first | ((with_reducible apply qAg); eq_refl; eq_refl; (first | exact (w1) | exact (f1) | exact (f2)); eq_refl) | ((with_reducible first | apply qAd | apply qAa); (conv => lhs; whnf)) | ((with_reducible first | apply qAJ | apply qAc | apply qAe | apply qAr | apply qAZ) <;> first | ((with_reducible apply tyOk); eq_refl) | eq_refl | exact id | decide) | ((with_reducible apply qAl); exact tyOk rfl; (iterate 3 eq_refl); exact qle rfl; eq_refl) | ((with_reducible apply qAL); exact tyOk rfl; (iterate 3 eq_refl); (dsimp only; omega); decide; eq_refl) | ((with_reducible apply qBo); (focus repeat' (first | exact qBN rfl | (apply qBD; eq_refl; (conv => lhs; whnf)))); (focus repeat' (first | exact qBN rfl | (apply qBD; eq_refl; (conv => lhs; whnf)))))) | ((with_reducible apply rp1); first | ((with_reducible apply qAp); eq_refl; eq_refl) | ((with_reducible apply qBG); (conv => lhs; whnf); eq_refl; eq_refl) | ((with_reducible apply qAk); exact tyOk rfl; eq_refl)) | ((with_reducible apply rpN); ((with_reducible apply qAb); exact tyOk rfl; (iterate 5 eq_refl))) | ((with_reducible apply qAn); eq_refl; (focus (intro hd; (first | (cases hd; done) | (exfalso; simp at hd; omega)))); (intro hd; clear hd)))
      refine qAn rfl (fun hd => ?_) (fun hd => ?_)
      · have h20 : op = 20 := by simp at hd; omega
        rw [if_pos h20]
        repeat (first | (with_reducible first | apply qAj | apply qAi | apply qAh | apply qAf | apply qAu | apply qAS | apply qAz) | ((first | (with_reducible apply rp) | ((with_reducible apply rpG); eq_refl; exact qAT rfl; (focus repeat' (first | exact trivial | exact id | apply And.intro)); intro zg; have zh := zg; (try simp only [zs1, zs2, zs3, zs4] at zg))); first | ((with_reducible first | apply qAd | apply qAa); (conv => lhs; whnf)) | ((with_reducible first | apply qAM | apply qAc | apply qAe) <;> first | ((with_reducible apply tyOk); eq_refl) | eq_refl | exact id | decide) | ((with_reducible apply qAL); exact tyOk rfl; (iterate 3 eq_refl); (dsimp only; omega); decide; eq_refl) | ((with_reducible apply qAR); exact tyOk rfl; eq_refl; eq_refl; (focus repeat' (first | eq_refl | refine ⟨_, _, rfl, rfl, qle rfl, rfl, ?_⟩)); eq_refl)) | ((with_reducible apply rpN); ((with_reducible apply qAb); exact tyOk rfl; (iterate 5 eq_refl))))
        (with_reducible apply qAA); (focus (repeat' (first | (with_reducible apply qAv) | (with_reducible apply qAq) | ((with_reducible apply qAD); eq_refl) | ((with_reducible apply qAy); eq_refl; eq_refl; exact tyOk rfl; eq_refl; eq_refl)))); eq_refl; refine SubD.of_eq ?_
        rfl
      · have h20 : ¬ op = 20 := by simp at hd; omega
        rw [if_neg h20]
        repeat (first | (with_reducible first | apply qAj | apply qAi | apply qAh | apply qAf | apply qAu | apply qAz | apply qAm) | ((with_reducible apply rp); first | ((with_reducible apply qAa); (conv => lhs; whnf)) | ((with_reducible apply qAc); exact tyOk rfl; eq_refl; eq_refl; decide; eq_refl) | ((with_reducible apply qAe); exact tyOk rfl; (iterate 4 eq_refl)) | ((with_reducible apply qAR); exact tyOk rfl; eq_refl; eq_refl; (focus repeat' (first | eq_refl | refine ⟨_, _, rfl, rfl, qle rfl, rfl, ?_⟩)); eq_refl)) | ((with_reducible apply rpN); ((with_reducible apply qAb); exact tyOk rfl; (iterate 5 eq_refl))))
        (with_reducible apply qAA); (focus (repeat' (first | (with_reducible apply qAv) | (with_reducible apply qAq) | ((with_reducible apply qAD); eq_refl) | ((with_reducible apply qAy); eq_refl; eq_refl; exact tyOk rfl; eq_refl; eq_refl)))); eq_refl; refine SubD.of_eq ?_
        rfl
    · rw [eq_false_of_ne_true ht] at f2
      rw [if_neg (by rw [eq_false_of_ne_true ht, Bool.and_false]; decide)]
      generalize qDk s t = bk at *
      refine qAs Tryd.func104 rfl (by kernel_rfl) mixed (by kernel_rfl) (qle (by kernel_rfl)) Tryd.results104 ?_
      repeat (first | (with_reducible first | apply qAj | apply qAi | apply qAh | apply qAf | apply qAo | apply qAF | apply qAu | apply qAS | apply qAz | apply qAm) | ((first | (with_reducible apply rp) | ((with_reducible apply rpG); eq_refl; exact qAP rfl; (focus repeat' (first | exact trivial | exact id | apply And.intro)); intro zg; have zh := zg; (try simp only [zs1, zs2, zs3, zs4] at zg))); first | ((with_reducible apply qAg); eq_refl; eq_refl; (first | exact (w1) | exact (f1) | exact (f2)); eq_refl) | ((with_reducible first | apply qAd | apply qAa); (conv => lhs; whnf)) | ((with_reducible first | apply qAJ | apply qAc | apply qAe | apply qAr | apply qAZ | apply qAV) <;> first | ((with_reducible apply tyOk); eq_refl) | eq_refl | exact id | decide) | ((with_reducible apply qAl); exact tyOk rfl; (iterate 3 eq_refl); exact qle rfl; eq_refl) | ((with_reducible apply qAL); exact tyOk rfl; (iterate 3 eq_refl); (dsimp only; omega); decide; eq_refl) | ((with_reducible apply qBo); (focus repeat' (first | exact qBN rfl | (apply qBD; eq_refl; (conv => lhs; whnf)))); (focus repeat' (first | exact qBN rfl | (apply qBD; eq_refl; (conv => lhs; whnf)))))) | ((with_reducible apply rp1); first | ((with_reducible apply qAp); eq_refl; eq_refl) | ((with_reducible apply qBG); (conv => lhs; whnf); eq_refl; eq_refl) | ((with_reducible apply qAk); exact tyOk rfl; eq_refl)) | ((with_reducible apply rpN); ((with_reducible apply qAb); exact tyOk rfl; (iterate 5 eq_refl))) | ((with_reducible apply qAn); eq_refl; (focus (intro hd; (first | (cases hd; done) | (exfalso; simp at hd; omega)))); (intro hd; clear hd)) | ((with_reducible apply qAn); eq_refl; rotate_left; (focus (intro hd; (first | (cases hd; done) | (exfalso; simp at hd; omega)))); (intro hd; clear hd)))
      (with_reducible apply qAA); (focus (repeat' (first | (with_reducible apply qAv) | (with_reducible apply qAq) | ((with_reducible apply qAD); eq_refl) | ((with_reducible apply qAy); eq_refl; eq_refl; exact tyOk rfl; eq_refl; eq_refl)))); eq_refl; refine SubD.of_eq ?_
      rfl
  · rw [eq_false_of_ne_true hs] at f1
    rw [if_neg (by rw [eq_false_of_ne_true hs, Bool.false_and]; decide)]
    generalize qDk s t = bk at *
    refine qAs Tryd.func104 rfl (by kernel_rfl) mixed (by kernel_rfl) (qle (by kernel_rfl)) Tryd.results104 ?_
    repeat (first | (with_reducible first | apply qAj | apply qAi | apply qAh | apply qAf | apply qAo | apply qAF | apply qAu | apply qAS | apply qAz | apply qAm) | ((first | (with_reducible apply rp) | ((with_reducible apply rpG); eq_refl; exact qAP rfl; (focus repeat' (first | exact trivial | exact id | apply And.intro)); intro zg; have zh := zg; (try simp only [zs1, zs2, zs3, zs4] at zg))); first | ((with_reducible apply qAg); eq_refl; eq_refl; (first | exact (w1) | exact (f1) | exact (f2)); eq_refl) | ((with_reducible first | apply qAd | apply qAa); (conv => lhs; whnf)) | ((with_reducible first | apply qAJ | apply qAc | apply qAe | apply qAr | apply qAZ | apply qAV) <;> first | ((with_reducible apply tyOk); eq_refl) | eq_refl | exact id | decide) | ((with_reducible apply qAl); exact tyOk rfl; (iterate 3 eq_refl); exact qle rfl; eq_refl) | ((with_reducible apply qAL); exact tyOk rfl; (iterate 3 eq_refl); (dsimp only; omega); decide; eq_refl) | ((with_reducible apply qBo); (focus repeat' (first | exact qBN rfl | (apply qBD; eq_refl; (conv => lhs; whnf)))); (focus repeat' (first | exact qBN rfl | (apply qBD; eq_refl; (conv => lhs; whnf)))))) | ((with_reducible apply rp1); first | ((with_reducible apply qAp); eq_refl; eq_refl) | ((with_reducible apply qBG); (conv => lhs; whnf); eq_refl; eq_refl) | ((with_reducible apply qAk); exact tyOk rfl; eq_refl)) | ((with_reducible apply rpN); ((with_reducible apply qAb); exact tyOk rfl; (iterate 5 eq_refl))) | ((with_reducible apply qAn); eq_refl; (focus (intro hd; (first | (cases hd; done) | (exfalso; simp at hd; omega)))); (intro hd; clear hd)) | ((with_reducible apply qAn); eq_refl; rotate_left; (focus (intro hd; (first | (cases hd; done) | (exfalso; simp at hd; omega)))); (intro hd; clear hd)))
    (with_reducible apply qAA); (focus (repeat' (first | (with_reducible apply qAv) | (with_reducible apply qAq) | ((with_reducible apply qAD); eq_refl) | ((with_reducible apply qAy); eq_refl; eq_refl; exact tyOk rfl; eq_refl; eq_refl)))); eq_refl; refine SubD.of_eq ?_
    rfl
theorem joined_un (op : Nat) (h : un1 op) (s t : So) : PC Tryd.prog 104 [iD op, iD 1, .ag [iD s.k, bD s.n, iD t.k, bD t.n]] (.tu [soD (qDy op s), iD (qDy op s).e]) := by
  rcases h with rfl | rfl | rfl | rfl
  · exact joined_3 s t
  · exact joined_4 s t
  · exact joined_17 s t
  · exact joined_18 s t
theorem joined_bi (op : Nat) (h : bi2 op) (s t : So) : PC Tryd.prog 104 [iD op, iD 2, .ag [iD s.k, bD s.n, iD t.k, bD t.n]] (.tu [soD (qCa op s t), iD (qCa op s t).e]) := by
  obtain ⟨h1, h2, h3, h4⟩ := h
  by_cases hr : 9 ≤ op ∧ op ≤ 14 ∨ op = 20
  · exact joined_rest op hr s t
  · rcases (by omega : op = 5 ∨ op = 6 ∨ op = 7 ∨ op = 8 ∨ op = 15 ∨ op = 16 ∨ op = 19) with rfl | rfl | rfl | rfl | rfl | rfl | rfl
    · exact joined_5 s t
    · exact joined_6 s t
    · exact joined_7 s t
    · exact joined_8 s t
    · exact joined_15 s t
    · exact joined_16 s t
    · exact joined_19 s t
end Go.Proofs.YtpaccaojgbfjdaaDoor


/-
  kinds.of, Columns, Of as contracts. No condition but that the expression and the columns may be.
-/
namespace Go.Proofs.YtpaccaojgbfjdaaDoor
open Go.RowKit

theorem name_eq {a b : ByteArray} (h : (a.toList == b.toList) = true) : a = b := ba_eq (beq_iff_eq.1 h)
theorem name_ne {a b : ByteArray} (h : (a.toList == b.toList) = false) : a ≠ b := fun e => by rw [e] at h; simp at h
set_option maxHeartbeats 1000000 in
theorem of_lit (cols : List Cl) (v : Vl) : PC Tryd.prog 96 [.ag (Ex.lit v).cs, qAW cols] (.tu [soD (ofF cols (.lit v)), iD (ofF cols (.lit v)).e]) := by
  unfold Ex.cs
  refine qAs Tryd.func96 rfl (by kernel_rfl) mixed (by kernel_rfl) (qle (by kernel_rfl)) Tryd.results96 ?_
  repeat (first | (with_reducible first | apply qAj | apply qAi | apply qAh | apply qAf | apply qAo | apply qAu | apply qAS | apply qBc | apply qAz) | ((with_reducible apply rp); first | ((with_reducible apply qAa); (conv => lhs; whnf)) | ((with_reducible apply qAc); exact tyOk rfl; eq_refl; eq_refl; decide; eq_refl) | ((with_reducible apply qAe); exact tyOk rfl; (iterate 4 eq_refl)) | ((with_reducible apply qAr); eq_refl; eq_refl) | ((with_reducible apply qAR); exact tyOk rfl; eq_refl; eq_refl; (focus repeat' (first | eq_refl | refine ⟨_, _, rfl, rfl, qle rfl, rfl, ?_⟩)); eq_refl)) | ((with_reducible apply rp1); first | ((with_reducible apply qAp); eq_refl; eq_refl) | ((with_reducible apply qAk); exact tyOk rfl; eq_refl)) | ((with_reducible apply rpN); ((with_reducible apply qAb); exact tyOk rfl; (iterate 5 eq_refl))) | ((with_reducible apply qBq); eq_refl; eq_refl))
  (with_reducible apply qAA); (focus (repeat' (first | (with_reducible apply qAv) | (with_reducible apply qAq) | ((with_reducible apply qAD); eq_refl) | ((with_reducible apply qAy); eq_refl; eq_refl; exact tyOk rfl; eq_refl; eq_refl)))); eq_refl; refine SubD.of_eq ?_
  rfl
set_option maxHeartbeats 1000000 in
theorem of_col (cols : List Cl) (hl : cols.length ≤ 1000000) (n : ByteArray) : PC Tryd.prog 96 [.ag (Ex.col n).cs, qAW cols] (.tu [soD (ofF cols (.col n)), iD (ofF cols (.col n)).e]) := by
  unfold Ex.cs ofF
  obtain ⟨so, hso⟩ : ∃ so, findC n cols = so := ⟨_, rfl⟩
  rw [hso]
  refine qAs Tryd.func96 rfl (by kernel_rfl) mixed (by kernel_rfl) (qle (by kernel_rfl)) Tryd.results96 ?_
  repeat (first | (with_reducible first | apply qAj | apply qAi | apply qAh | apply qAf | apply qAo) | ((with_reducible apply rp); first | ((with_reducible apply qAd); (conv => lhs; whnf)) | ((with_reducible apply qAa); (conv => lhs; whnf)) | ((with_reducible apply qAc); exact tyOk rfl; eq_refl; eq_refl; decide; eq_refl) | ((with_reducible apply qAe); exact tyOk rfl; (iterate 4 eq_refl)) | ((with_reducible apply qAr); eq_refl; eq_refl) | ((with_reducible apply qA7); exact tyOk rfl; eq_refl; eq_refl)) | ((with_reducible apply rp1); first | ((with_reducible apply qAp); eq_refl; eq_refl) | ((with_reducible apply qAk); exact tyOk rfl; eq_refl)) | ((with_reducible apply qA6); eq_refl; eq_refl) | ((with_reducible apply qBq); eq_refl; eq_refl))
  refine qBf (fun m s => ∃ k, k ≤ cols.length ∧ m = cols.length - k ∧ findC n (cols.drop k) = so ∧ s = ⟨[(2, .px 2 0), (4, .px 4 0), (27, .d (qAW cols)), (28, .d (iD cols.length)), (29, .d (iD k))], [(2, .var 58 [.d (iD 2), .d (iD 0), .d (iD 0), .d (qD 0), .d (strD .empty), .d (strD n), .d (.sl 7 [])]), (4, .var 182 [.d (iD 0), .d (bD false)])]⟩) _ _ ?_ ⟨0, by omega, rfl, hso, rfl⟩ ?_
  · refine qAw [] (by repeat' (first | exact qAG | (refine qAx rfl (by exact SubA.refl _) ?_))) (kpX rfl) rfl (insS rfl) (insX rfl)
  · clear hso
    rintro m s ⟨k, hk, rfl, hso, rfl⟩
    repeat (first | (with_reducible first | apply qAj | apply qAi | apply qAh | apply qAf) | ((with_reducible apply rp); ((with_reducible apply qAN); eq_refl; eq_refl)))
    refine qAn rfl (fun hd => ?_) (fun hd => ?_)
    · have hlt : k < cols.length := by simp at hd; omega
      clear hd
      obtain ⟨c, hc⟩ : ∃ c, cols[k]? = some c := ⟨_, List.getElem?_eq_getElem hlt⟩
      have hc2 : (cols.map Cl.cs)[k]? = some c.cs := by rw [List.getElem?_map, hc]; rfl
      rw [List.drop_eq_getElem?_toList_append, hc] at hso
      have hso : (if c.name = n then (⟨0, c.kind, c.null⟩ : So) else findC n (cols.drop (k + 1))) = so := hso
      obtain ⟨cn, ck, cb⟩ := c
      unfold Cl.cs at hc2
      dsimp only at *
      repeat (first | (with_reducible first | apply qAj | apply qAi | apply qAh | apply qAf | apply qAo | apply qAm) | ((with_reducible apply rp); first | ((with_reducible apply qAc); exact tyOk rfl; eq_refl; eq_refl; decide; eq_refl) | ((with_reducible apply qAe); exact tyOk rfl; (iterate 4 eq_refl)) | ((with_reducible apply qAE); exact tyOk rfl; eq_refl; eq_refl; assumption; eq_refl) | ((with_reducible apply qAH); exact tyOk rfl; eq_refl; exact tyOk rfl; (iterate 4 eq_refl); (simp only [List.length_map, List.length_append, List.length_cons, List.length_nil] at *; omega)) | ((with_reducible apply qDV); eq_refl; eq_refl)) | ((with_reducible apply rp1); ((with_reducible apply qAk); exact tyOk rfl; eq_refl)) | ((with_reducible apply rpN); ((with_reducible apply qAb); exact tyOk rfl; (iterate 5 eq_refl))))
      refine qAn rfl (fun hd => ?_) (fun hd => ?_)
      · rw [if_pos (name_eq hd)] at hso
        subst hso
        repeat (first | (with_reducible first | apply qAj | apply qAi | apply qAh | apply qAf | apply qAu | apply qAS | apply qBc | apply qAz) | ((with_reducible apply rp); first | ((with_reducible apply qAa); (conv => lhs; whnf)) | ((with_reducible apply qAc); exact tyOk rfl; eq_refl; eq_refl; decide; eq_refl) | ((with_reducible apply qAe); exact tyOk rfl; (iterate 4 eq_refl)) | ((with_reducible apply qAR); exact tyOk rfl; eq_refl; eq_refl; (focus repeat' (first | eq_refl | refine ⟨_, _, rfl, rfl, qle rfl, rfl, ?_⟩)); eq_refl)) | ((with_reducible apply rpN); ((with_reducible apply qAb); exact tyOk rfl; (iterate 5 eq_refl))))
        (with_reducible apply qAA); (focus (repeat' (first | (with_reducible apply qAv) | (with_reducible apply qAq) | ((with_reducible apply qAD); eq_refl) | ((with_reducible apply qAy); eq_refl; eq_refl; exact tyOk rfl; eq_refl; eq_refl)))); eq_refl; refine SubD.of_eq ?_
        rfl
      · rw [if_neg (name_ne hd)] at hso
        repeat (first | (with_reducible first | apply qAi | apply qAh | apply qAf | apply qAF | apply qAm) | ((with_reducible apply rp); first | ((with_reducible apply qAd); (conv => lhs; whnf)) | ((with_reducible apply qAI); eq_refl; eq_refl; omega; omega)))
        refine ⟨_, _, ?_, ?_, k + 1, by omega, rfl, hso, rfl⟩
        · omega
        · refine qAw [] (by repeat' (first | exact qAG | (refine qAx rfl (by exact SubA.refl _) ?_))) (kpX rfl) rfl (insS rfl) (insX rfl)
    · have hke : k = cols.length := by simp at hd; omega
      clear hd
      subst hke
      rw [List.drop_length] at hso
      have hso : So.bad 5 = so := hso
      subst hso
      repeat (first | (with_reducible first | apply qAj | apply qAi | apply qAh | apply qAf | apply qA5 | apply qA9 | apply qA8 | apply qAu | apply qAS | apply qBc | apply qAz) | ((with_reducible apply rp); first | ((with_reducible apply qAa); (conv => lhs; whnf)) | ((with_reducible apply qAV); exact tyOk rfl; eq_refl; eq_refl)) | ((with_reducible apply rpN); ((with_reducible apply qAb); exact tyOk rfl; (iterate 5 eq_refl))))
      (with_reducible apply qAA); (focus (repeat' (first | (with_reducible apply qAv) | (with_reducible apply qAq) | ((with_reducible apply qAD); eq_refl) | ((with_reducible apply qAy); eq_refl; eq_refl; exact tyOk rfl; eq_refl; eq_refl)))); eq_refl; refine SubD.of_eq ?_
      rfl
set_option maxHeartbeats 4000000 in
theorem of_un (cols : List Cl) (op : Nat) (a : Ex) (h : un1 op) (pa : PC Tryd.prog 96 [.ag a.cs, qAW cols] (.tu [soD (ofF cols a), iD (ofF cols a).e])) : PC Tryd.prog 96 [.ag (Ex.un op a).cs, qAW cols] (.tu [soD (ofF cols (.un op a)), iD (ofF cols (.un op a)).e]) := by
  have j1 := joined_un op h (ofF cols a) ⟨0, 0, false⟩
  have ho1 : ¬ op = 1 := by unfold un1 at h; omega
  have ho2 : ¬ op = 2 := by unfold un1 at h; omega
  clear h
  unfold Ex.cs
  rw [ofF]
  by_cases ha : (ofF cols a).e = 0
  · rw [if_pos ha]
    rw [ha] at pa
    generalize ofF cols a = sa at *
    have hcla := a.cs_eq
    generalize a.cs = ca at *
    generalize a.op = ao at *
    generalize a.val = av at *
    generalize a.nam = an at *
    generalize a.args = al at *
    subst hcla
    refine qAs Tryd.func96 rfl (by kernel_rfl) mixed (by kernel_rfl) (qle (by kernel_rfl)) Tryd.results96 ?_
    repeat (first | (with_reducible first | apply qAj | apply qAi | apply qAh | apply qAf | apply qAo | apply qAF | apply qAm) | ((with_reducible apply rp); first | ((with_reducible apply qAd); (conv => lhs; whnf)) | ((with_reducible apply qAa); (conv => lhs; whnf)) | ((with_reducible apply qAc); exact tyOk rfl; eq_refl; eq_refl; decide; eq_refl) | ((with_reducible apply qAe); exact tyOk rfl; (iterate 4 eq_refl)) | ((with_reducible apply qAr); eq_refl; eq_refl) | ((with_reducible apply qBw); exact tyOk rfl; eq_refl; eq_refl)) | ((with_reducible apply rp1); first | ((with_reducible apply qAp); eq_refl; eq_refl) | ((with_reducible apply qAk); exact tyOk rfl; eq_refl)) | ((with_reducible apply qAn); eq_refl; (focus (intro hd; (exfalso; simp at hd; omega))); (intro hd; clear hd)))
    refine qBf (fun m s => (m = 1 ∧ s = ⟨[(1, .d (qAW cols)), (2, .px 2 0), (4, .px 4 0), (8, .px 8 0), (46, .d (.sl 7 [[iD ao, iD av.k, iD av.n, qD av.b, strD av.t, strD an, .sl 7 (al.map Ex.cs)]])), (47, .d (iD 1)), (48, .d (iD 0))], [(2, .var 58 [.d (iD op), .d (iD 0), .d (iD 0), .d (qD 0), .d (strD .empty), .d (strD .empty), .d (.sl 7 [[iD ao, iD av.k, iD av.n, qD av.b, strD av.t, strD an, .sl 7 (al.map Ex.cs)]])]), (4, .var 182 [.d (iD 0), .d (bD false)]), (8, .var 196 [.d (iD 0), .d (bD false), .d (iD 0), .d (bD false)])]⟩) ∨ (m = 0 ∧ s = ⟨[(1, .d (qAW cols)), (2, .px 2 0), (4, .px 4 0), (8, .px 8 0), (46, .d (.sl 7 [[iD ao, iD av.k, iD av.n, qD av.b, strD av.t, strD an, .sl 7 (al.map Ex.cs)]])), (47, .d (iD 1)), (48, .d (iD 1))], [(2, .var 58 [.d (iD op), .d (iD 0), .d (iD 0), .d (qD 0), .d (strD .empty), .d (strD .empty), .d (.sl 7 [[iD ao, iD av.k, iD av.n, qD av.b, strD av.t, strD an, .sl 7 (al.map Ex.cs)]])]), (4, .var 182 [.d (iD 0), .d (bD false)]), (8, .var 196 [.d (iD sa.k), .d (bD sa.n), .d (iD 0), .d (bD false)])]⟩)) 1 _ ?_ (.inl ⟨rfl, rfl⟩) ?_
    · refine qAw [] (by repeat' (first | exact qAG | (refine qAx rfl (by exact SubA.refl _) ?_))) (kpX rfl) rfl (insS rfl) (insX rfl)
    · rintro m s (⟨rfl, rfl⟩ | ⟨rfl, rfl⟩)
      · repeat (first | (with_reducible first | apply qAj | apply qAi | apply qAh | apply qAf | apply qAo | apply qAm) | ((with_reducible apply rp); first | ((with_reducible apply qAd); (conv => lhs; whnf)) | ((with_reducible apply qAa); (conv => lhs; whnf)) | ((with_reducible apply qAl); exact tyOk rfl; (iterate 3 eq_refl); exact qle rfl; eq_refl) | ((with_reducible apply qAE); exact tyOk rfl; (iterate 4 eq_refl)) | ((with_reducible apply qAH); exact tyOk rfl; eq_refl; exact tyOk rfl; (iterate 4 eq_refl); (dsimp only; simp only [List.length_map, List.length_append, List.length_cons, List.length_nil] at *; omega)) | ((with_reducible apply qAN); eq_refl; eq_refl)) | ((with_reducible apply rp1); ((with_reducible apply qAk); exact tyOk rfl; eq_refl)) | ((with_reducible apply rpN); ((with_reducible apply qAb); exact tyOk rfl; (iterate 5 eq_refl))) | ((with_reducible apply qBq); eq_refl; eq_refl))
        have hga : [[iD ao, iD av.k, iD av.n, qD av.b, strD av.t, strD an, .sl 7 (al.map Ex.cs)]][0]? = some [iD ao, iD av.k, iD av.n, qD av.b, strD av.t, strD an, .sl 7 (al.map Ex.cs)] := rfl
        repeat (first | (with_reducible first | apply qAj | apply qAi | apply qAh | apply qAf | apply qAF | apply qAm) | ((with_reducible apply rp); first | ((with_reducible apply qAg); eq_refl; eq_refl; exact (pa); eq_refl) | ((with_reducible apply qAd); (conv => lhs; whnf)) | ((with_reducible apply qAa); (conv => lhs; whnf)) | ((with_reducible apply qAl); exact tyOk rfl; (iterate 3 eq_refl); exact qle rfl; eq_refl) | ((with_reducible apply qAL); exact tyOk rfl; (iterate 3 eq_refl); (dsimp only; omega); decide; eq_refl) | ((with_reducible apply qAU); eq_refl; eq_refl) | ((with_reducible apply qAI); eq_refl; eq_refl; omega; omega) | ((with_reducible apply qAt); eq_refl; eq_refl)) | ((with_reducible apply rp1); ((with_reducible apply qAk); exact tyOk rfl; eq_refl)) | ((with_reducible apply rpN); first | ((with_reducible apply qAb); exact tyOk rfl; (iterate 5 eq_refl)) | ((with_reducible apply qBt); exact tyOk rfl; (iterate 4 eq_refl); exact qle rfl)) | ((with_reducible apply qA6); eq_refl; eq_refl))
        refine ⟨0, _, by decide, ?_, (.inr ⟨rfl, rfl⟩)⟩
        refine qAw [] (by repeat' (first | exact qAG | (refine qAx rfl (by exact SubA.refl _) ?_))) (kpX rfl) rfl (insS rfl) (insX rfl)
      · repeat (first | (with_reducible first | apply qAj | apply qAi | apply qAh | apply qAf | apply qA5 | apply qA9 | apply qA8 | apply qAu | apply qAz) | ((with_reducible apply rp); first | ((with_reducible apply qAg); eq_refl; eq_refl; exact (j1); eq_refl) | ((with_reducible apply qAa); (conv => lhs; whnf)) | ((with_reducible apply qAc); exact tyOk rfl; eq_refl; eq_refl; decide; eq_refl) | ((with_reducible apply qAe); exact tyOk rfl; (iterate 4 eq_refl)) | ((with_reducible apply qAl); exact tyOk rfl; (iterate 3 eq_refl); exact qle rfl; eq_refl) | ((with_reducible apply qAN); eq_refl; eq_refl) | ((with_reducible apply qAt); eq_refl; eq_refl) | ((with_reducible apply qBw); exact tyOk rfl; eq_refl; eq_refl)) | ((with_reducible apply rpN); ((with_reducible apply qAb); exact tyOk rfl; (iterate 5 eq_refl))) | ((with_reducible apply qA6); eq_refl; eq_refl))
        (with_reducible apply qAA); (focus (repeat' (first | (with_reducible apply qAv) | (with_reducible apply qAq) | ((with_reducible apply qAD); eq_refl) | ((with_reducible apply qAy); eq_refl; eq_refl; exact tyOk rfl; eq_refl; eq_refl)))); eq_refl; refine SubD.of_eq ?_
        rfl
  · rw [if_neg ha]
    have hb2 : (((ofF cols a).e : Int) != 0) = true := bne_iff_ne.2 (by omega)
    clear j1
    generalize ofF cols a = sa at *
    have hcla := a.cs_eq
    generalize a.cs = ca at *
    generalize a.op = ao at *
    generalize a.val = av at *
    generalize a.nam = an at *
    generalize a.args = al at *
    subst hcla
    refine qAs Tryd.func96 rfl (by kernel_rfl) mixed (by kernel_rfl) (qle (by kernel_rfl)) Tryd.results96 ?_
    repeat (first | (with_reducible first | apply qAj | apply qAi | apply qAh | apply qAf | apply qAo | apply qAF | apply qAm) | ((with_reducible apply rp); first | ((with_reducible apply qAd); (conv => lhs; whnf)) | ((with_reducible apply qAa); (conv => lhs; whnf)) | ((with_reducible apply qAc); exact tyOk rfl; eq_refl; eq_refl; decide; eq_refl) | ((with_reducible apply qAe); exact tyOk rfl; (iterate 4 eq_refl)) | ((with_reducible apply qAr); eq_refl; eq_refl) | ((with_reducible apply qBw); exact tyOk rfl; eq_refl; eq_refl)) | ((with_reducible apply rp1); first | ((with_reducible apply qAp); eq_refl; eq_refl) | ((with_reducible apply qAk); exact tyOk rfl; eq_refl)) | ((with_reducible apply qAn); eq_refl; (focus (intro hd; (exfalso; simp at hd; omega))); (intro hd; clear hd)))
    refine qBf (fun m s => (m = 1 ∧ s = ⟨[(1, .d (qAW cols)), (2, .px 2 0), (4, .px 4 0), (8, .px 8 0), (46, .d (.sl 7 [[iD ao, iD av.k, iD av.n, qD av.b, strD av.t, strD an, .sl 7 (al.map Ex.cs)]])), (47, .d (iD 1)), (48, .d (iD 0))], [(2, .var 58 [.d (iD op), .d (iD 0), .d (iD 0), .d (qD 0), .d (strD .empty), .d (strD .empty), .d (.sl 7 [[iD ao, iD av.k, iD av.n, qD av.b, strD av.t, strD an, .sl 7 (al.map Ex.cs)]])]), (4, .var 182 [.d (iD 0), .d (bD false)]), (8, .var 196 [.d (iD 0), .d (bD false), .d (iD 0), .d (bD false)])]⟩)) 1 _ ?_ ⟨rfl, rfl⟩ ?_
    · refine qAw [] (by repeat' (first | exact qAG | (refine qAx rfl (by exact SubA.refl _) ?_))) (kpX rfl) rfl (insS rfl) (insX rfl)
    · rintro m s ⟨rfl, rfl⟩
      repeat (first | (with_reducible first | apply qAj | apply qAi | apply qAh | apply qAf | apply qAo | apply qAm) | ((with_reducible apply rp); first | ((with_reducible apply qAd); (conv => lhs; whnf)) | ((with_reducible apply qAa); (conv => lhs; whnf)) | ((with_reducible apply qAl); exact tyOk rfl; (iterate 3 eq_refl); exact qle rfl; eq_refl) | ((with_reducible apply qAE); exact tyOk rfl; (iterate 4 eq_refl)) | ((with_reducible apply qAH); exact tyOk rfl; eq_refl; exact tyOk rfl; (iterate 4 eq_refl); (dsimp only; simp only [List.length_map, List.length_append, List.length_cons, List.length_nil] at *; omega)) | ((with_reducible apply qAN); eq_refl; eq_refl)) | ((with_reducible apply rp1); ((with_reducible apply qAk); exact tyOk rfl; eq_refl)) | ((with_reducible apply rpN); ((with_reducible apply qAb); exact tyOk rfl; (iterate 5 eq_refl))) | ((with_reducible apply qBq); eq_refl; eq_refl))
      have hga : [[iD ao, iD av.k, iD av.n, qD av.b, strD av.t, strD an, .sl 7 (al.map Ex.cs)]][0]? = some [iD ao, iD av.k, iD av.n, qD av.b, strD av.t, strD an, .sl 7 (al.map Ex.cs)] := rfl
      repeat (first | (with_reducible first | apply qAj | apply qAi | apply qAh | apply qAf | apply qAu | apply qAS | apply qBc | apply qAz) | ((with_reducible apply rp); first | ((with_reducible apply qAg); eq_refl; eq_refl; exact (pa); eq_refl) | ((with_reducible apply qAd); (conv => lhs; whnf)) | ((with_reducible apply qAa); (conv => lhs; whnf)) | ((with_reducible apply qAU); eq_refl; eq_refl) | ((with_reducible apply qAt); eq_refl; eq_refl) | ((with_reducible apply qAV); exact tyOk rfl; eq_refl; eq_refl)) | ((with_reducible apply rp1); ((with_reducible apply qAk); exact tyOk rfl; eq_refl)) | ((with_reducible apply rpN); ((with_reducible apply qAb); exact tyOk rfl; (iterate 5 eq_refl))) | ((with_reducible apply qAn); eq_refl; rotate_left; (focus (intro hd; (exfalso; simp at hd; omega))); (intro hd; clear hd)))
      (with_reducible apply qAA); (focus (repeat' (first | (with_reducible apply qAv) | (with_reducible apply qAq) | ((with_reducible apply qAD); eq_refl) | ((with_reducible apply qAy); eq_refl; eq_refl; exact tyOk rfl; eq_refl; eq_refl)))); eq_refl; refine SubD.of_eq ?_
      rfl
set_option maxHeartbeats 4000000 in
theorem of_bi (cols : List Cl) (op : Nat) (a b : Ex) (h : bi2 op) (pa : PC Tryd.prog 96 [.ag a.cs, qAW cols] (.tu [soD (ofF cols a), iD (ofF cols a).e])) (pb : PC Tryd.prog 96 [.ag b.cs, qAW cols] (.tu [soD (ofF cols b), iD (ofF cols b).e])) : PC Tryd.prog 96 [.ag (Ex.bi op a b).cs, qAW cols] (.tu [soD (ofF cols (.bi op a b)), iD (ofF cols (.bi op a b)).e]) := by
  have j1 := joined_bi op h (ofF cols a) (ofF cols b)
  have ho1 : ¬ op = 1 := by unfold bi2 at h; omega
  have ho2 : ¬ op = 2 := by unfold bi2 at h; omega
  clear h
  unfold Ex.cs
  rw [ofF]
  by_cases ha : (ofF cols a).e = 0
  · rw [if_pos ha]
    rw [ha] at pa
    by_cases hb : (ofF cols b).e = 0
    · rw [if_pos hb]
      rw [hb] at pb
      generalize ofF cols a = sa at *
      generalize ofF cols b = sb at *
      have hcla := a.cs_eq
      generalize a.cs = ca at *
      generalize a.op = ao at *
      generalize a.val = av at *
      generalize a.nam = an at *
      generalize a.args = al at *
      subst hcla
      have hclb := b.cs_eq
      generalize b.cs = cb at *
      generalize b.op = bo at *
      generalize b.val = bv at *
      generalize b.nam = bn at *
      generalize b.args = bl at *
      subst hclb
      refine qAs Tryd.func96 rfl (by kernel_rfl) mixed (by kernel_rfl) (qle (by kernel_rfl)) Tryd.results96 ?_
      repeat (first | (with_reducible first | apply qAj | apply qAi | apply qAh | apply qAf | apply qAo | apply qAF | apply qAm) | ((with_reducible apply rp); first | ((with_reducible apply qAd); (conv => lhs; whnf)) | ((with_reducible apply qAa); (conv => lhs; whnf)) | ((with_reducible apply qAc); exact tyOk rfl; eq_refl; eq_refl; decide; eq_refl) | ((with_reducible apply qAe); exact tyOk rfl; (iterate 4 eq_refl)) | ((with_reducible apply qAr); eq_refl; eq_refl) | ((with_reducible apply qBw); exact tyOk rfl; eq_refl; eq_refl)) | ((with_reducible apply rp1); first | ((with_reducible apply qAp); eq_refl; eq_refl) | ((with_reducible apply qAk); exact tyOk rfl; eq_refl)) | ((with_reducible apply qAn); eq_refl; (focus (intro hd; (exfalso; simp at hd; omega))); (intro hd; clear hd)))
      refine qBf (fun m s => (m = 2 ∧ s = ⟨[(1, .d (qAW cols)), (2, .px 2 0), (4, .px 4 0), (8, .px 8 0), (46, .d (.sl 7 [[iD ao, iD av.k, iD av.n, qD av.b, strD av.t, strD an, .sl 7 (al.map Ex.cs)], [iD bo, iD bv.k, iD bv.n, qD bv.b, strD bv.t, strD bn, .sl 7 (bl.map Ex.cs)]])), (47, .d (iD 2)), (48, .d (iD 0))], [(2, .var 58 [.d (iD op), .d (iD 0), .d (iD 0), .d (qD 0), .d (strD .empty), .d (strD .empty), .d (.sl 7 [[iD ao, iD av.k, iD av.n, qD av.b, strD av.t, strD an, .sl 7 (al.map Ex.cs)], [iD bo, iD bv.k, iD bv.n, qD bv.b, strD bv.t, strD bn, .sl 7 (bl.map Ex.cs)]])]), (4, .var 182 [.d (iD 0), .d (bD false)]), (8, .var 196 [.d (iD 0), .d (bD false), .d (iD 0), .d (bD false)])]⟩) ∨ (m = 1 ∧ s = ⟨[(1, .d (qAW cols)), (2, .px 2 0), (4, .px 4 0), (8, .px 8 0), (46, .d (.sl 7 [[iD ao, iD av.k, iD av.n, qD av.b, strD av.t, strD an, .sl 7 (al.map Ex.cs)], [iD bo, iD bv.k, iD bv.n, qD bv.b, strD bv.t, strD bn, .sl 7 (bl.map Ex.cs)]])), (47, .d (iD 2)), (48, .d (iD 1))], [(2, .var 58 [.d (iD op), .d (iD 0), .d (iD 0), .d (qD 0), .d (strD .empty), .d (strD .empty), .d (.sl 7 [[iD ao, iD av.k, iD av.n, qD av.b, strD av.t, strD an, .sl 7 (al.map Ex.cs)], [iD bo, iD bv.k, iD bv.n, qD bv.b, strD bv.t, strD bn, .sl 7 (bl.map Ex.cs)]])]), (4, .var 182 [.d (iD 0), .d (bD false)]), (8, .var 196 [.d (iD sa.k), .d (bD sa.n), .d (iD 0), .d (bD false)])]⟩) ∨ (m = 0 ∧ s = ⟨[(1, .d (qAW cols)), (2, .px 2 0), (4, .px 4 0), (8, .px 8 0), (46, .d (.sl 7 [[iD ao, iD av.k, iD av.n, qD av.b, strD av.t, strD an, .sl 7 (al.map Ex.cs)], [iD bo, iD bv.k, iD bv.n, qD bv.b, strD bv.t, strD bn, .sl 7 (bl.map Ex.cs)]])), (47, .d (iD 2)), (48, .d (iD 2))], [(2, .var 58 [.d (iD op), .d (iD 0), .d (iD 0), .d (qD 0), .d (strD .empty), .d (strD .empty), .d (.sl 7 [[iD ao, iD av.k, iD av.n, qD av.b, strD av.t, strD an, .sl 7 (al.map Ex.cs)], [iD bo, iD bv.k, iD bv.n, qD bv.b, strD bv.t, strD bn, .sl 7 (bl.map Ex.cs)]])]), (4, .var 182 [.d (iD 0), .d (bD false)]), (8, .var 196 [.d (iD sa.k), .d (bD sa.n), .d (iD sb.k), .d (bD sb.n)])]⟩)) 2 _ ?_ (.inl ⟨rfl, rfl⟩) ?_
      · refine qAw [] (by repeat' (first | exact qAG | (refine qAx rfl (by exact SubA.refl _) ?_))) (kpX rfl) rfl (insS rfl) (insX rfl)
      · rintro m s (⟨rfl, rfl⟩ | ⟨rfl, rfl⟩ | ⟨rfl, rfl⟩)
        · repeat (first | (with_reducible first | apply qAj | apply qAi | apply qAh | apply qAf | apply qAo | apply qAm) | ((with_reducible apply rp); first | ((with_reducible apply qAd); (conv => lhs; whnf)) | ((with_reducible apply qAa); (conv => lhs; whnf)) | ((with_reducible apply qAl); exact tyOk rfl; (iterate 3 eq_refl); exact qle rfl; eq_refl) | ((with_reducible apply qAE); exact tyOk rfl; (iterate 4 eq_refl)) | ((with_reducible apply qAH); exact tyOk rfl; eq_refl; exact tyOk rfl; (iterate 4 eq_refl); (dsimp only; simp only [List.length_map, List.length_append, List.length_cons, List.length_nil] at *; omega)) | ((with_reducible apply qAN); eq_refl; eq_refl)) | ((with_reducible apply rp1); ((with_reducible apply qAk); exact tyOk rfl; eq_refl)) | ((with_reducible apply rpN); ((with_reducible apply qAb); exact tyOk rfl; (iterate 5 eq_refl))) | ((with_reducible apply qBq); eq_refl; eq_refl))
          have hga : [[iD ao, iD av.k, iD av.n, qD av.b, strD av.t, strD an, .sl 7 (al.map Ex.cs)], [iD bo, iD bv.k, iD bv.n, qD bv.b, strD bv.t, strD bn, .sl 7 (bl.map Ex.cs)]][0]? = some [iD ao, iD av.k, iD av.n, qD av.b, strD av.t, strD an, .sl 7 (al.map Ex.cs)] := rfl
          repeat (first | (with_reducible first | apply qAj | apply qAi | apply qAh | apply qAf | apply qAF | apply qAm) | ((with_reducible apply rp); first | ((with_reducible apply qAg); eq_refl; eq_refl; exact (pa); eq_refl) | ((with_reducible apply qAd); (conv => lhs; whnf)) | ((with_reducible apply qAa); (conv => lhs; whnf)) | ((with_reducible apply qAl); exact tyOk rfl; (iterate 3 eq_refl); exact qle rfl; eq_refl) | ((with_reducible apply qAL); exact tyOk rfl; (iterate 3 eq_refl); (dsimp only; omega); decide; eq_refl) | ((with_reducible apply qAU); eq_refl; eq_refl) | ((with_reducible apply qAI); eq_refl; eq_refl; omega; omega) | ((with_reducible apply qAt); eq_refl; eq_refl)) | ((with_reducible apply rp1); ((with_reducible apply qAk); exact tyOk rfl; eq_refl)) | ((with_reducible apply rpN); first | ((with_reducible apply qAb); exact tyOk rfl; (iterate 5 eq_refl)) | ((with_reducible apply qBt); exact tyOk rfl; (iterate 4 eq_refl); exact qle rfl)) | ((with_reducible apply qA6); eq_refl; eq_refl))
          refine ⟨1, _, by decide, ?_, (.inr (.inl ⟨rfl, rfl⟩))⟩
          refine qAw [] (by repeat' (first | exact qAG | (refine qAx rfl (by exact SubA.refl _) ?_))) (kpX rfl) rfl (insS rfl) (insX rfl)
        · repeat (first | (with_reducible first | apply qAj | apply qAi | apply qAh | apply qAf | apply qAo | apply qAm) | ((with_reducible apply rp); first | ((with_reducible apply qAd); (conv => lhs; whnf)) | ((with_reducible apply qAa); (conv => lhs; whnf)) | ((with_reducible apply qAl); exact tyOk rfl; (iterate 3 eq_refl); exact qle rfl; eq_refl) | ((with_reducible apply qAE); exact tyOk rfl; (iterate 4 eq_refl)) | ((with_reducible apply qAH); exact tyOk rfl; eq_refl; exact tyOk rfl; (iterate 4 eq_refl); (dsimp only; simp only [List.length_map, List.length_append, List.length_cons, List.length_nil] at *; omega)) | ((with_reducible apply qAN); eq_refl; eq_refl)) | ((with_reducible apply rp1); ((with_reducible apply qAk); exact tyOk rfl; eq_refl)) | ((with_reducible apply rpN); ((with_reducible apply qAb); exact tyOk rfl; (iterate 5 eq_refl))) | ((with_reducible apply qBq); eq_refl; eq_refl))
          have hgb : [[iD ao, iD av.k, iD av.n, qD av.b, strD av.t, strD an, .sl 7 (al.map Ex.cs)], [iD bo, iD bv.k, iD bv.n, qD bv.b, strD bv.t, strD bn, .sl 7 (bl.map Ex.cs)]][1]? = some [iD bo, iD bv.k, iD bv.n, qD bv.b, strD bv.t, strD bn, .sl 7 (bl.map Ex.cs)] := rfl
          repeat (first | (with_reducible first | apply qAj | apply qAi | apply qAh | apply qAf | apply qAF | apply qAm) | ((with_reducible apply rp); first | ((with_reducible apply qAg); eq_refl; eq_refl; exact (pb); eq_refl) | ((with_reducible apply qAd); (conv => lhs; whnf)) | ((with_reducible apply qAa); (conv => lhs; whnf)) | ((with_reducible apply qAl); exact tyOk rfl; (iterate 3 eq_refl); exact qle rfl; eq_refl) | ((with_reducible apply qAL); exact tyOk rfl; (iterate 3 eq_refl); (dsimp only; omega); decide; eq_refl) | ((with_reducible apply qAU); eq_refl; eq_refl) | ((with_reducible apply qAI); eq_refl; eq_refl; omega; omega) | ((with_reducible apply qAt); eq_refl; eq_refl)) | ((with_reducible apply rp1); ((with_reducible apply qAk); exact tyOk rfl; eq_refl)) | ((with_reducible apply rpN); first | ((with_reducible apply qAb); exact tyOk rfl; (iterate 5 eq_refl)) | ((with_reducible apply qBt); exact tyOk rfl; (iterate 4 eq_refl); exact qle rfl)) | ((with_reducible apply qA6); eq_refl; eq_refl))
          refine ⟨0, _, by decide, ?_, (.inr (.inr ⟨rfl, rfl⟩))⟩
          refine qAw [] (by repeat' (first | exact qAG | (refine qAx rfl (by exact SubA.refl _) ?_))) (kpX rfl) rfl (insS rfl) (insX rfl)
        · repeat (first | (with_reducible first | apply qAj | apply qAi | apply qAh | apply qAf | apply qA5 | apply qA9 | apply qA8 | apply qAu | apply qAz) | ((with_reducible apply rp); first | ((with_reducible apply qAg); eq_refl; eq_refl; exact (j1); eq_refl) | ((with_reducible apply qAa); (conv => lhs; whnf)) | ((with_reducible apply qAc); exact tyOk rfl; eq_refl; eq_refl; decide; eq_refl) | ((with_reducible apply qAe); exact tyOk rfl; (iterate 4 eq_refl)) | ((with_reducible apply qAl); exact tyOk rfl; (iterate 3 eq_refl); exact qle rfl; eq_refl) | ((with_reducible apply qAN); eq_refl; eq_refl) | ((with_reducible apply qAt); eq_refl; eq_refl) | ((with_reducible apply qBw); exact tyOk rfl; eq_refl; eq_refl)) | ((with_reducible apply rpN); ((with_reducible apply qAb); exact tyOk rfl; (iterate 5 eq_refl))) | ((with_reducible apply qA6); eq_refl; eq_refl))
          (with_reducible apply qAA); (focus (repeat' (first | (with_reducible apply qAv) | (with_reducible apply qAq) | ((with_reducible apply qAD); eq_refl) | ((with_reducible apply qAy); eq_refl; eq_refl; exact tyOk rfl; eq_refl; eq_refl)))); eq_refl; refine SubD.of_eq ?_
          rfl
    · rw [if_neg hb]
      have hb2 : (((ofF cols b).e : Int) != 0) = true := bne_iff_ne.2 (by omega)
      clear j1
      generalize ofF cols a = sa at *
      generalize ofF cols b = sb at *
      have hcla := a.cs_eq
      generalize a.cs = ca at *
      generalize a.op = ao at *
      generalize a.val = av at *
      generalize a.nam = an at *
      generalize a.args = al at *
      subst hcla
      have hclb := b.cs_eq
      generalize b.cs = cb at *
      generalize b.op = bo at *
      generalize b.val = bv at *
      generalize b.nam = bn at *
      generalize b.args = bl at *
      subst hclb
      refine qAs Tryd.func96 rfl (by kernel_rfl) mixed (by kernel_rfl) (qle (by kernel_rfl)) Tryd.results96 ?_
      repeat (first | (with_reducible first | apply qAj | apply qAi | apply qAh | apply qAf | apply qAo | apply qAF | apply qAm) | ((with_reducible apply rp); first | ((with_reducible apply qAd); (conv => lhs; whnf)) | ((with_reducible apply qAa); (conv => lhs; whnf)) | ((with_reducible apply qAc); exact tyOk rfl; eq_refl; eq_refl; decide; eq_refl) | ((with_reducible apply qAe); exact tyOk rfl; (iterate 4 eq_refl)) | ((with_reducible apply qAr); eq_refl; eq_refl) | ((with_reducible apply qBw); exact tyOk rfl; eq_refl; eq_refl)) | ((with_reducible apply rp1); first | ((with_reducible apply qAp); eq_refl; eq_refl) | ((with_reducible apply qAk); exact tyOk rfl; eq_refl)) | ((with_reducible apply qAn); eq_refl; (focus (intro hd; (exfalso; simp at hd; omega))); (intro hd; clear hd)))
      refine qBf (fun m s => (m = 2 ∧ s = ⟨[(1, .d (qAW cols)), (2, .px 2 0), (4, .px 4 0), (8, .px 8 0), (46, .d (.sl 7 [[iD ao, iD av.k, iD av.n, qD av.b, strD av.t, strD an, .sl 7 (al.map Ex.cs)], [iD bo, iD bv.k, iD bv.n, qD bv.b, strD bv.t, strD bn, .sl 7 (bl.map Ex.cs)]])), (47, .d (iD 2)), (48, .d (iD 0))], [(2, .var 58 [.d (iD op), .d (iD 0), .d (iD 0), .d (qD 0), .d (strD .empty), .d (strD .empty), .d (.sl 7 [[iD ao, iD av.k, iD av.n, qD av.b, strD av.t, strD an, .sl 7 (al.map Ex.cs)], [iD bo, iD bv.k, iD bv.n, qD bv.b, strD bv.t, strD bn, .sl 7 (bl.map Ex.cs)]])]), (4, .var 182 [.d (iD 0), .d (bD false)]), (8, .var 196 [.d (iD 0), .d (bD false), .d (iD 0), .d (bD false)])]⟩) ∨ (m = 1 ∧ s = ⟨[(1, .d (qAW cols)), (2, .px 2 0), (4, .px 4 0), (8, .px 8 0), (46, .d (.sl 7 [[iD ao, iD av.k, iD av.n, qD av.b, strD av.t, strD an, .sl 7 (al.map Ex.cs)], [iD bo, iD bv.k, iD bv.n, qD bv.b, strD bv.t, strD bn, .sl 7 (bl.map Ex.cs)]])), (47, .d (iD 2)), (48, .d (iD 1))], [(2, .var 58 [.d (iD op), .d (iD 0), .d (iD 0), .d (qD 0), .d (strD .empty), .d (strD .empty), .d (.sl 7 [[iD ao, iD av.k, iD av.n, qD av.b, strD av.t, strD an, .sl 7 (al.map Ex.cs)], [iD bo, iD bv.k, iD bv.n, qD bv.b, strD bv.t, strD bn, .sl 7 (bl.map Ex.cs)]])]), (4, .var 182 [.d (iD 0), .d (bD false)]), (8, .var 196 [.d (iD sa.k), .d (bD sa.n), .d (iD 0), .d (bD false)])]⟩)) 2 _ ?_ (.inl ⟨rfl, rfl⟩) ?_
      · refine qAw [] (by repeat' (first | exact qAG | (refine qAx rfl (by exact SubA.refl _) ?_))) (kpX rfl) rfl (insS rfl) (insX rfl)
      · rintro m s (⟨rfl, rfl⟩ | ⟨rfl, rfl⟩)
        · repeat (first | (with_reducible first | apply qAj | apply qAi | apply qAh | apply qAf | apply qAo | apply qAm) | ((with_reducible apply rp); first | ((with_reducible apply qAd); (conv => lhs; whnf)) | ((with_reducible apply qAa); (conv => lhs; whnf)) | ((with_reducible apply qAl); exact tyOk rfl; (iterate 3 eq_refl); exact qle rfl; eq_refl) | ((with_reducible apply qAE); exact tyOk rfl; (iterate 4 eq_refl)) | ((with_reducible apply qAH); exact tyOk rfl; eq_refl; exact tyOk rfl; (iterate 4 eq_refl); (dsimp only; simp only [List.length_map, List.length_append, List.length_cons, List.length_nil] at *; omega)) | ((with_reducible apply qAN); eq_refl; eq_refl)) | ((with_reducible apply rp1); ((with_reducible apply qAk); exact tyOk rfl; eq_refl)) | ((with_reducible apply rpN); ((with_reducible apply qAb); exact tyOk rfl; (iterate 5 eq_refl))) | ((with_reducible apply qBq); eq_refl; eq_refl))
          have hga : [[iD ao, iD av.k, iD av.n, qD av.b, strD av.t, strD an, .sl 7 (al.map Ex.cs)], [iD bo, iD bv.k, iD bv.n, qD bv.b, strD bv.t, strD bn, .sl 7 (bl.map Ex.cs)]][0]? = some [iD ao, iD av.k, iD av.n, qD av.b, strD av.t, strD an, .sl 7 (al.map Ex.cs)] := rfl
          repeat (first | (with_reducible first | apply qAj | apply qAi | apply qAh | apply qAf | apply qAF | apply qAm) | ((with_reducible apply rp); first | ((with_reducible apply qAg); eq_refl; eq_refl; exact (pa); eq_refl) | ((with_reducible apply qAd); (conv => lhs; whnf)) | ((with_reducible apply qAa); (conv => lhs; whnf)) | ((with_reducible apply qAl); exact tyOk rfl; (iterate 3 eq_refl); exact qle rfl; eq_refl) | ((with_reducible apply qAL); exact tyOk rfl; (iterate 3 eq_refl); (dsimp only; omega); decide; eq_refl) | ((with_reducible apply qAU); eq_refl; eq_refl) | ((with_reducible apply qAI); eq_refl; eq_refl; omega; omega) | ((with_reducible apply qAt); eq_refl; eq_refl)) | ((with_reducible apply rp1); ((with_reducible apply qAk); exact tyOk rfl; eq_refl)) | ((with_reducible apply rpN); first | ((with_reducible apply qAb); exact tyOk rfl; (iterate 5 eq_refl)) | ((with_reducible apply qBt); exact tyOk rfl; (iterate 4 eq_refl); exact qle rfl)) | ((with_reducible apply qA6); eq_refl; eq_refl))
          refine ⟨1, _, by decide, ?_, (.inr ⟨rfl, rfl⟩)⟩
          refine qAw [] (by repeat' (first | exact qAG | (refine qAx rfl (by exact SubA.refl _) ?_))) (kpX rfl) rfl (insS rfl) (insX rfl)
        · repeat (first | (with_reducible first | apply qAj | apply qAi | apply qAh | apply qAf | apply qAo | apply qAm) | ((with_reducible apply rp); first | ((with_reducible apply qAd); (conv => lhs; whnf)) | ((with_reducible apply qAa); (conv => lhs; whnf)) | ((with_reducible apply qAl); exact tyOk rfl; (iterate 3 eq_refl); exact qle rfl; eq_refl) | ((with_reducible apply qAE); exact tyOk rfl; (iterate 4 eq_refl)) | ((with_reducible apply qAH); exact tyOk rfl; eq_refl; exact tyOk rfl; (iterate 4 eq_refl); (dsimp only; simp only [List.length_map, List.length_append, List.length_cons, List.length_nil] at *; omega)) | ((with_reducible apply qAN); eq_refl; eq_refl)) | ((with_reducible apply rp1); ((with_reducible apply qAk); exact tyOk rfl; eq_refl)) | ((with_reducible apply rpN); ((with_reducible apply qAb); exact tyOk rfl; (iterate 5 eq_refl))) | ((with_reducible apply qBq); eq_refl; eq_refl))
          have hgb : [[iD ao, iD av.k, iD av.n, qD av.b, strD av.t, strD an, .sl 7 (al.map Ex.cs)], [iD bo, iD bv.k, iD bv.n, qD bv.b, strD bv.t, strD bn, .sl 7 (bl.map Ex.cs)]][1]? = some [iD bo, iD bv.k, iD bv.n, qD bv.b, strD bv.t, strD bn, .sl 7 (bl.map Ex.cs)] := rfl
          repeat (first | (with_reducible first | apply qAj | apply qAi | apply qAh | apply qAf | apply qAu | apply qAS | apply qBc | apply qAz) | ((with_reducible apply rp); first | ((with_reducible apply qAg); eq_refl; eq_refl; exact (pb); eq_refl) | ((with_reducible apply qAd); (conv => lhs; whnf)) | ((with_reducible apply qAa); (conv => lhs; whnf)) | ((with_reducible apply qAU); eq_refl; eq_refl) | ((with_reducible apply qAt); eq_refl; eq_refl) | ((with_reducible apply qAV); exact tyOk rfl; eq_refl; eq_refl)) | ((with_reducible apply rp1); ((with_reducible apply qAk); exact tyOk rfl; eq_refl)) | ((with_reducible apply rpN); ((with_reducible apply qAb); exact tyOk rfl; (iterate 5 eq_refl))) | ((with_reducible apply qAn); eq_refl; rotate_left; (focus (intro hd; (exfalso; simp at hd; omega))); (intro hd; clear hd)))
          (with_reducible apply qAA); (focus (repeat' (first | (with_reducible apply qAv) | (with_reducible apply qAq) | ((with_reducible apply qAD); eq_refl) | ((with_reducible apply qAy); eq_refl; eq_refl; exact tyOk rfl; eq_refl; eq_refl)))); eq_refl; refine SubD.of_eq ?_
          rfl
  · rw [if_neg ha]
    have hb2 : (((ofF cols a).e : Int) != 0) = true := bne_iff_ne.2 (by omega)
    clear j1 pb
    generalize ofF cols a = sa at *
    generalize ofF cols b = sb at *
    have hcla := a.cs_eq
    generalize a.cs = ca at *
    generalize a.op = ao at *
    generalize a.val = av at *
    generalize a.nam = an at *
    generalize a.args = al at *
    subst hcla
    have hclb := b.cs_eq
    generalize b.cs = cb at *
    generalize b.op = bo at *
    generalize b.val = bv at *
    generalize b.nam = bn at *
    generalize b.args = bl at *
    subst hclb
    refine qAs Tryd.func96 rfl (by kernel_rfl) mixed (by kernel_rfl) (qle (by kernel_rfl)) Tryd.results96 ?_
    repeat (first | (with_reducible first | apply qAj | apply qAi | apply qAh | apply qAf | apply qAo | apply qAF | apply qAm) | ((with_reducible apply rp); first | ((with_reducible apply qAd); (conv => lhs; whnf)) | ((with_reducible apply qAa); (conv => lhs; whnf)) | ((with_reducible apply qAc); exact tyOk rfl; eq_refl; eq_refl; decide; eq_refl) | ((with_reducible apply qAe); exact tyOk rfl; (iterate 4 eq_refl)) | ((with_reducible apply qAr); eq_refl; eq_refl) | ((with_reducible apply qBw); exact tyOk rfl; eq_refl; eq_refl)) | ((with_reducible apply rp1); first | ((with_reducible apply qAp); eq_refl; eq_refl) | ((with_reducible apply qAk); exact tyOk rfl; eq_refl)) | ((with_reducible apply qAn); eq_refl; (focus (intro hd; (exfalso; simp at hd; omega))); (intro hd; clear hd)))
    refine qBf (fun m s => (m = 2 ∧ s = ⟨[(1, .d (qAW cols)), (2, .px 2 0), (4, .px 4 0), (8, .px 8 0), (46, .d (.sl 7 [[iD ao, iD av.k, iD av.n, qD av.b, strD av.t, strD an, .sl 7 (al.map Ex.cs)], [iD bo, iD bv.k, iD bv.n, qD bv.b, strD bv.t, strD bn, .sl 7 (bl.map Ex.cs)]])), (47, .d (iD 2)), (48, .d (iD 0))], [(2, .var 58 [.d (iD op), .d (iD 0), .d (iD 0), .d (qD 0), .d (strD .empty), .d (strD .empty), .d (.sl 7 [[iD ao, iD av.k, iD av.n, qD av.b, strD av.t, strD an, .sl 7 (al.map Ex.cs)], [iD bo, iD bv.k, iD bv.n, qD bv.b, strD bv.t, strD bn, .sl 7 (bl.map Ex.cs)]])]), (4, .var 182 [.d (iD 0), .d (bD false)]), (8, .var 196 [.d (iD 0), .d (bD false), .d (iD 0), .d (bD false)])]⟩)) 2 _ ?_ ⟨rfl, rfl⟩ ?_
    · refine qAw [] (by repeat' (first | exact qAG | (refine qAx rfl (by exact SubA.refl _) ?_))) (kpX rfl) rfl (insS rfl) (insX rfl)
    · rintro m s ⟨rfl, rfl⟩
      repeat (first | (with_reducible first | apply qAj | apply qAi | apply qAh | apply qAf | apply qAo | apply qAm) | ((with_reducible apply rp); first | ((with_reducible apply qAd); (conv => lhs; whnf)) | ((with_reducible apply qAa); (conv => lhs; whnf)) | ((with_reducible apply qAl); exact tyOk rfl; (iterate 3 eq_refl); exact qle rfl; eq_refl) | ((with_reducible apply qAE); exact tyOk rfl; (iterate 4 eq_refl)) | ((with_reducible apply qAH); exact tyOk rfl; eq_refl; exact tyOk rfl; (iterate 4 eq_refl); (dsimp only; simp only [List.length_map, List.length_append, List.length_cons, List.length_nil] at *; omega)) | ((with_reducible apply qAN); eq_refl; eq_refl)) | ((with_reducible apply rp1); ((with_reducible apply qAk); exact tyOk rfl; eq_refl)) | ((with_reducible apply rpN); ((with_reducible apply qAb); exact tyOk rfl; (iterate 5 eq_refl))) | ((with_reducible apply qBq); eq_refl; eq_refl))
      have hga : [[iD ao, iD av.k, iD av.n, qD av.b, strD av.t, strD an, .sl 7 (al.map Ex.cs)], [iD bo, iD bv.k, iD bv.n, qD bv.b, strD bv.t, strD bn, .sl 7 (bl.map Ex.cs)]][0]? = some [iD ao, iD av.k, iD av.n, qD av.b, strD av.t, strD an, .sl 7 (al.map Ex.cs)] := rfl
      repeat (first | (with_reducible first | apply qAj | apply qAi | apply qAh | apply qAf | apply qAu | apply qAS | apply qBc | apply qAz) | ((with_reducible apply rp); first | ((with_reducible apply qAg); eq_refl; eq_refl; exact (pa); eq_refl) | ((with_reducible apply qAd); (conv => lhs; whnf)) | ((with_reducible apply qAa); (conv => lhs; whnf)) | ((with_reducible apply qAU); eq_refl; eq_refl) | ((with_reducible apply qAt); eq_refl; eq_refl) | ((with_reducible apply qAV); exact tyOk rfl; eq_refl; eq_refl)) | ((with_reducible apply rp1); ((with_reducible apply qAk); exact tyOk rfl; eq_refl)) | ((with_reducible apply rpN); ((with_reducible apply qAb); exact tyOk rfl; (iterate 5 eq_refl))) | ((with_reducible apply qAn); eq_refl; rotate_left; (focus (intro hd; (exfalso; simp at hd; omega))); (intro hd; clear hd)))
      (with_reducible apply qAA); (focus (repeat' (first | (with_reducible apply qAv) | (with_reducible apply qAq) | ((with_reducible apply qAD); eq_refl) | ((with_reducible apply qAy); eq_refl; eq_refl; exact tyOk rfl; eq_refl; eq_refl)))); eq_refl; refine SubD.of_eq ?_
      rfl
theorem of_pc (cols : List Cl) (hl : cols.length ≤ 1000000) : ∀ x : Ex, x.ok → PC Tryd.prog 96 [.ag x.cs, qAW cols] (.tu [soD (ofF cols x), iD (ofF cols x).e])
  | .lit v, _ => of_lit cols v
  | .col n, _ => of_col cols hl n
  | .un op a, h => of_un cols op a h.1 (of_pc cols hl a h.2)
  | .bi op a b, h => of_bi cols op a b h.1 (of_pc cols hl a h.2.1) (of_pc cols hl b h.2.2)
theorem once_get {l : List Cl} (h : l.Pairwise fun c d => c.name ≠ d.name) {j k : Nat} {c d : Cl} (hj : l[j]? = some c) (hk : l[k]? = some d) (hjk : j < k) : (c.name.toList == d.name.toList) = false := by
  obtain ⟨h1, e1⟩ := List.getElem?_eq_some_iff.1 hj
  obtain ⟨h2, e2⟩ := List.getElem?_eq_some_iff.1 hk
  have := List.pairwise_iff_getElem.1 h j k h1 h2 hjk
  rw [e1, e2] at this
  exact beq_eq_false_iff_ne.2 fun e => this (ba_eq e)
set_option maxHeartbeats 2000000 in
theorem qEJ (cols : List Cl) (h : ColsOk cols) : PC Tryd.prog 43 [qAW cols] (iD 0) := by
  obtain ⟨hl, hn, hk, ho⟩ := h
  refine qAs Tryd.func43 rfl (by kernel_rfl) mixed (by kernel_rfl) (qle (by kernel_rfl)) Tryd.results43 ?_
  repeat (first | (with_reducible first | apply qAj | apply qAi | apply qAh | apply qAf | apply qAo | apply qAm) | ((with_reducible apply rp); first | ((with_reducible apply qAd); (conv => lhs; whnf)) | ((with_reducible apply qAa); (conv => lhs; whnf)) | ((with_reducible apply qBH); eq_refl; eq_refl) | ((with_reducible apply qA7); exact tyOk rfl; eq_refl; eq_refl)) | ((with_reducible apply qAn); eq_refl; (focus (intro hd; (exfalso; simp at hd; omega))); (intro hd; clear hd)))
  refine qBf (fun m s => ∃ k, k ≤ cols.length ∧ m = cols.length - k ∧ s = ⟨[(0, .d (qAW cols)), (10, .d (qAW cols)), (11, .d (iD cols.length)), (12, .d (iD k))], []⟩) _ _ ?_ ⟨0, by omega, rfl, rfl⟩ ?_
  · refine qAw [] (by repeat' (first | exact qAG | (refine qAx rfl (by exact SubA.refl _) ?_))) (kpX rfl) rfl (insS rfl) (insX rfl)
  · rintro m s ⟨k, hkl, rfl, rfl⟩
    repeat (first | (with_reducible first | apply qAj | apply qAi | apply qAh | apply qAf) | ((with_reducible apply rp); ((with_reducible apply qAN); eq_refl; eq_refl)))
    refine qAn rfl (fun hd => ?_) (fun hd => ?_)
    · have hlt : k < cols.length := by simp at hd; omega
      clear hd
      obtain ⟨c, hc⟩ : ∃ c, cols[k]? = some c := ⟨_, List.getElem?_eq_getElem hlt⟩
      have hc2 : (cols.map Cl.cs)[k]? = some c.cs := by rw [List.getElem?_map, hc]; rfl
      have n1 := name_pc c.name (hn c (List.mem_of_getElem? hc))
      have k1 := hk c (List.mem_of_getElem? hc)
      have ho2 := fun j d hj hjk => once_get ho (j := j) (d := c) (c := d) hj hc hjk
      obtain ⟨cn, ck, cb⟩ := c
      unfold Cl.cs at hc2
      dsimp only at *
      repeat (first | (with_reducible first | apply qAj | apply qAi | apply qAh | apply qAf | apply qAo | apply qAm) | ((first | (with_reducible apply rp) | ((with_reducible apply rpG); eq_refl; exact qAP rfl; (focus repeat' (first | exact trivial | exact id | apply And.intro)); intro zg; have zh := zg; (try simp only [zs1, zs2, zs3, zs4] at zg))); first | ((with_reducible apply qAg); eq_refl; eq_refl; exact (n1); eq_refl) | ((with_reducible first | apply qAd | apply qAa); (conv => lhs; whnf)) | ((with_reducible first | apply qAJ | apply qAc | apply qAe | apply qAU | apply qAN | apply qBH | apply qBw) <;> first | ((with_reducible apply tyOk); eq_refl) | eq_refl | exact id | decide) | ((with_reducible apply qAE); exact tyOk rfl; eq_refl; eq_refl; assumption; eq_refl) | ((with_reducible apply qAH); exact tyOk rfl; eq_refl; exact tyOk rfl; (iterate 4 eq_refl); (first | omega | (simp only [List.length_map, List.length_append, List.length_cons, List.length_nil] at *; omega))) | ((with_reducible apply qAR); exact tyOk rfl; eq_refl; eq_refl; (focus repeat' (first | eq_refl | refine ⟨_, _, rfl, rfl, qle rfl, rfl, ?_⟩)); eq_refl) | ((with_reducible apply qEK); exact tyOk rfl; eq_refl; exact tyOk rfl; eq_refl; eq_refl; (first | eq_refl | exact ⟨_, _, rfl, rfl⟩); (first | eq_refl | exact ⟨_, _, rfl, rfl⟩); (first | omega | (simp only [List.length_map, List.length_append, List.length_cons, List.length_nil] at *; omega)); (first | omega | (simp only [List.length_map, List.length_append, List.length_cons, List.length_nil] at *; omega)))) | ((with_reducible apply rp1); ((with_reducible apply qAk); exact tyOk rfl; eq_refl)) | ((with_reducible apply rpN); ((with_reducible apply qAb); exact tyOk rfl; (iterate 5 eq_refl))) | ((with_reducible apply qAn); eq_refl; (focus (intro hd; (first | (cases hd; done) | (exfalso; simp at hd; omega)))); (intro hd; clear hd)))
      refine qBf (fun m s => ∃ j, j ≤ k ∧ m = k - j ∧ s = ⟨[(0, .d (qAW cols)), (4, .px 4 0), (10, .d (qAW cols)), (11, .d (iD cols.length)), (12, .d (iD k)), (32, .d (.sl 3 (((cols.map Cl.cs).take k).drop 0))), (33, .d (iD k)), (34, .d (iD j))], [(4, .var 52 [.d (strD cn), .d (iD ck), .d (bD cb)])]⟩) _ _ ?_ ⟨0, by omega, rfl, rfl⟩ ?_
      · refine qAw [] (by repeat' (first | exact qAG | (refine qAx rfl (by (first | exact SubA.refl _ | exact subA_i (by (simp; omega)))) ?_))) (kpX rfl) rfl (insS rfl) (insX rfl)
      · rintro m s ⟨j, hj, rfl, rfl⟩
        repeat (first | (with_reducible first | apply qAj | apply qAi | apply qAh | apply qAf) | ((with_reducible apply rp); ((with_reducible apply qAN); eq_refl; eq_refl)))
        refine qAn rfl (fun hd => ?_) (fun hd => ?_)
        · have hlt2 : j < k := by simp at hd; omega
          clear hd
          obtain ⟨d, hdc⟩ : ∃ d, cols[j]? = some d := ⟨_, List.getElem?_eq_getElem (by omega)⟩
          have hd2 : (((cols.map Cl.cs).take k).drop 0)[j]? = some d.cs := by rw [List.drop_zero, List.getElem?_take, if_pos hlt2, List.getElem?_map, hdc]; rfl
          have hne := ho2 j d hdc hlt2
          have hlen : (((cols.map Cl.cs).take k).drop 0).length = k := by rw [List.drop_zero, List.length_take, List.length_map]; omega
          clear ho2
          obtain ⟨dn, dk, db⟩ := d
          unfold Cl.cs at hd2
          dsimp only at *
          repeat (first | (with_reducible first | apply qAj | apply qAi | apply qAh | apply qAf | apply qAo | apply qAm) | ((with_reducible apply rp); first | ((with_reducible apply qAc); exact tyOk rfl; eq_refl; eq_refl; decide; eq_refl) | ((with_reducible apply qAe); exact tyOk rfl; (iterate 4 eq_refl)) | ((with_reducible apply qAE); exact tyOk rfl; eq_refl; eq_refl; assumption; eq_refl) | ((with_reducible apply qAH); exact tyOk rfl; eq_refl; exact tyOk rfl; (iterate 4 eq_refl); omega) | ((with_reducible apply qDV); eq_refl; eq_refl)) | ((with_reducible apply rp1); ((with_reducible apply qAk); exact tyOk rfl; eq_refl)) | ((with_reducible apply rpN); ((with_reducible apply qAb); exact tyOk rfl; (iterate 5 eq_refl))))
          refine qAn rfl (fun hd => absurd (hne.symm.trans hd) (by decide)) (fun hd => ?_)
          clear hd
          repeat (first | (with_reducible first | apply qAi | apply qAh | apply qAf | apply qAF | apply qAm) | ((with_reducible apply rp); first | ((with_reducible apply qAd); (conv => lhs; whnf)) | ((with_reducible apply qAI); eq_refl; eq_refl; omega; omega)))
          refine ⟨_, _, ?_, ?_, j + 1, by omega, rfl, rfl⟩
          · omega
          · refine qAw [] (by repeat' (first | exact qAG | (refine qAx rfl (by exact SubA.refl _) ?_))) (kpX rfl) rfl (insS rfl) (insX rfl)
        · have hke : j = k := by simp at hd; omega
          clear hd
          subst hke
          repeat (first | (with_reducible first | apply qAi | apply qAh | apply qAf | apply qA5 | apply qA9 | apply qA8 | apply qAF) | ((with_reducible apply rp); first | ((with_reducible apply qAd); (conv => lhs; whnf)) | ((with_reducible apply qAI); eq_refl; eq_refl; omega; omega)))
          refine ⟨_, _, ?_, ?_, j + 1, by omega, rfl, rfl⟩
          · omega
          · refine qAw [] (by repeat' (first | exact qAG | (refine qAx rfl (by exact SubA.refl _) ?_))) (kpX rfl) rfl (insS rfl) (insX rfl)
    · have hke : k = cols.length := by simp at hd; omega
      clear hd
      subst hke
      repeat (first | (with_reducible first | apply qAj | apply qAi | apply qAh | apply qAf | apply qA5 | apply qA9 | apply qA8 | apply qAu | apply qAz) | ((with_reducible apply rp); ((with_reducible apply qAa); (conv => lhs; whnf))))
      (with_reducible apply qAA); (focus (repeat' (first | (with_reducible apply qAv) | (with_reducible apply qAq) | ((with_reducible apply qAD); eq_refl)))); eq_refl; refine SubD.of_eq ?_
      rfl
theorem kOf_pc (cols : List Cl) (hc : ColsOk cols) (x : Ex) (hok : x.ok) (hd : x.deep ≤ 7) (hn : x.num ≤ 40) (he : (ofF cols x).e = 0) : PC Tryd.prog 80 [.ag x.cs, qAW cols] (.tu [iD (ofF cols x).k, bD (ofF cols x).n, iD 0]) := by
  have e1 := expr_check x hok hd hn
  have c1 := qEJ cols hc
  have o1 := of_pc cols (by have := hc.len; omega) x hok
  rw [he] at o1
  clear hok hd hn he hc
  generalize ofF cols x = s at *
  rw [Ex.cs_eq] at *
  refine qAs Tryd.func80 rfl (by kernel_rfl) mixed (by kernel_rfl) (qle (by kernel_rfl)) Tryd.results80 ?_
  repeat (first | (with_reducible first | apply qAj | apply qAi | apply qAh | apply qAf | apply qA4 | apply qAu | apply qAz | apply qAm) | ((with_reducible apply qBg); (first | kernel_rfl | eq_refl)) | ((with_reducible first | apply rp | apply dr); first | ((with_reducible apply qAg); eq_refl; eq_refl; (first | exact (e1) | exact (c1) | exact (o1)); eq_refl) | ((with_reducible first | apply qAd | apply qAa); (conv => lhs; whnf)) | ((with_reducible first | apply qAc | apply qAe | apply qAU | apply qAt) <;> first | ((with_reducible apply tyOk); eq_refl) | eq_refl | decide) | ((with_reducible apply qAl); exact tyOk rfl; (iterate 3 eq_refl); exact qle rfl; eq_refl)) | ((with_reducible apply rp1); first | ((with_reducible apply qAp); eq_refl; eq_refl) | ((with_reducible apply qAk); exact tyOk rfl; eq_refl)) | ((with_reducible apply rpN); ((with_reducible apply qAb); exact tyOk rfl; (iterate 5 eq_refl))) | ((with_reducible apply qA6); eq_refl; eq_refl))
  (with_reducible apply qAA); (focus (repeat' (first | (with_reducible apply qAv) | (with_reducible apply qAq) | ((with_reducible apply qAD); eq_refl)))); eq_refl; refine SubD.of_eq ?_
  rfl
end Go.Proofs.YtpaccaojgbfjdaaDoor

