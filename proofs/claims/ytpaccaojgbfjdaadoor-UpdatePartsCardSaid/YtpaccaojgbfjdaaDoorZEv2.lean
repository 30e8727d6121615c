/-
  chirograph/eval: join, reckon, compare, two as contracts. No condition but that the values may be.
-/
import Derived.Test.YtpaccaojgbfjdaaDoorZV
set_option linter.unusedSimpArgs false
set_option linter.unusedVariables false
namespace Go.Proofs.YtpaccaojgbfjdaaDoor
open Go.RowKit
open Go.Lib

theorem join_pc {v w : Vl} (hv : Gd v) (hw : Gd w) : PC Tryd.prog 139 [.ag v.cs, .ag w.cs] (tvD (catF v w)) := by
  have a1 := asked_k 4 v w
  have s1 := hv.size
  have s2 := hw.size
  unfold catF
  by_cases hf : fitK 4 v w = true
  · rw [if_pos hf]
    rw [show fitK ((4 : Nat) : Int) v w = true from hf] at a1
    clear hf hv hw
    by_cases h0 : v.k = 0 ∨ w.k = 0
    · rw [if_pos h0]
      have h1 : (v.k == 0 || w.k == 0) = true := by simpa using h0
      clear h0
      obtain ⟨k, n, b, t⟩ := v
      obtain ⟨k2, n2, b2, t2⟩ := w
      unfold Vl.cs at *
      dsimp only at *
      refine qAs Tryd.func139 rfl (by kernel_rfl) mixed (by kernel_rfl) (qle (by kernel_rfl)) Tryd.results139 ?_
      repeat (first | (with_reducible first | apply qAj | apply qAi | apply qAh | apply qAf | apply qAm) | ((first | (with_reducible apply rp) | ((with_reducible apply rpG); eq_refl; exact qAP rfl; (focus repeat' (first | exact trivial | exact id | apply And.intro)); intro zg; have zh := zg; (try simp only [zs1, zs2, zs3, zs4] at zg))); first | ((with_reducible apply qAg); eq_refl; eq_refl; exact (a1); eq_refl) | ((with_reducible first | apply qAd | apply qAa); (conv => lhs; whnf)) | ((with_reducible first | apply qAJ | apply qAc | apply qAe | apply qAr | apply qAZ) <;> first | ((with_reducible apply tyOk); eq_refl) | eq_refl | exact id | decide) | ((with_reducible apply qAl); exact tyOk rfl; (iterate 3 eq_refl); exact qle rfl; eq_refl)) | ((with_reducible apply rp1); first | ((with_reducible apply qAp); eq_refl; eq_refl) | ((with_reducible apply qAk); exact tyOk rfl; eq_refl)) | ((with_reducible apply qA6); eq_refl; eq_refl))
      refine qAn rfl (fun _ => ?_) (fun hd => absurd (h1.symm.trans hd) (by decide))
      repeat (first | (with_reducible first | apply qAj | apply qAi | apply qAh | apply qAf | apply qAu | apply qAS | apply qAz) | ((with_reducible apply rp); first | ((with_reducible apply qAa); (conv => lhs; whnf)) | ((with_reducible apply qAV); exact tyOk rfl; eq_refl; eq_refl)) | ((with_reducible apply rpN); ((with_reducible apply qAb); exact tyOk rfl; (iterate 5 eq_refl))))
      (with_reducible apply qAA); (focus (repeat' (first | (with_reducible apply qAv) | (with_reducible apply qAq) | ((with_reducible apply qAD); eq_refl) | ((with_reducible apply qAy); eq_refl; eq_refl; exact tyOk rfl; eq_refl; eq_refl)))); eq_refl; refine SubD.of_eq ?_
      rfl
    · rw [if_neg h0]
      have h1 : (v.k == 0 || w.k == 0) = false := by simpa using h0
      clear h0
      obtain ⟨k, n, b, t⟩ := v
      obtain ⟨k2, n2, b2, t2⟩ := w
      unfold Vl.cs at *
      dsimp only at *
      by_cases hs : t.size + t2.size > 40
      · rw [if_pos hs]
        refine qAs Tryd.func139 rfl (by kernel_rfl) mixed (by kernel_rfl) (qle (by kernel_rfl)) Tryd.results139 ?_
        repeat (first | (with_reducible first | apply qAj | apply qAi | apply qAh | apply qAf | apply qAm) | ((first | (with_reducible apply rp) | ((with_reducible apply rpG); eq_refl; exact qAP rfl; (focus repeat' (first | exact trivial | exact id | apply And.intro)); intro zg; have zh := zg; (try simp only [zs1, zs2, zs3, zs4] at zg))); first | ((with_reducible apply qAg); eq_refl; eq_refl; exact (a1); eq_refl) | ((with_reducible first | apply qAd | apply qAa); (conv => lhs; whnf)) | ((with_reducible first | apply qAJ | apply qAc | apply qAe | apply qAr | apply qAZ) <;> first | ((with_reducible apply tyOk); eq_refl) | eq_refl | exact id | decide) | ((with_reducible apply qAl); exact tyOk rfl; (iterate 3 eq_refl); exact qle rfl; eq_refl)) | ((with_reducible apply rp1); first | ((with_reducible apply qAp); eq_refl; eq_refl) | ((with_reducible apply qAk); exact tyOk rfl; eq_refl)) | ((with_reducible apply qA6); eq_refl; eq_refl))
        refine qAn rfl (fun hd => absurd (h1.symm.trans hd) (by decide)) (fun hd => ?_)
        clear hd
        repeat (first | (with_reducible first | apply qAj | apply qAi | apply qAh | apply qAf | apply qAu | apply qAS | apply qAz | apply qAm) | ((with_reducible apply rp); first | (exact qBE (z := ((t.size + t2.size : Nat) : Int)) rfl rfl (by omega) (by omega) (by omega)) | ((with_reducible apply qAa); (conv => lhs; whnf)) | ((with_reducible apply qAc); exact tyOk rfl; eq_refl; eq_refl; decide; eq_refl) | ((with_reducible apply qAe); exact tyOk rfl; (iterate 4 eq_refl)) | ((with_reducible apply qBH); eq_refl; eq_refl) | ((with_reducible apply qCb); exact tyOk rfl; eq_refl; eq_refl) | ((with_reducible apply qAV); exact tyOk rfl; eq_refl; eq_refl)) | ((with_reducible apply rpN); ((with_reducible apply qAb); exact tyOk rfl; (iterate 5 eq_refl))) | ((with_reducible apply qAn); eq_refl; rotate_left; (focus (intro hd; (exfalso; simp at hd; omega))); (intro hd; clear hd)))
        (with_reducible apply qAA); (focus (repeat' (first | (with_reducible apply qAv) | (with_reducible apply qAq) | ((with_reducible apply qAD); eq_refl) | ((with_reducible apply qAy); eq_refl; eq_refl; exact tyOk rfl; eq_refl; eq_refl)))); eq_refl; refine SubD.of_eq ?_
        rfl
      · rw [if_neg hs]
        refine qAs Tryd.func139 rfl (by kernel_rfl) mixed (by kernel_rfl) (qle (by kernel_rfl)) Tryd.results139 ?_
        repeat (first | (with_reducible first | apply qAj | apply qAi | apply qAh | apply qAf | apply qAm) | ((first | (with_reducible apply rp) | ((with_reducible apply rpG); eq_refl; exact qAP rfl; (focus repeat' (first | exact trivial | exact id | apply And.intro)); intro zg; have zh := zg; (try simp only [zs1, zs2, zs3, zs4] at zg))); first | ((with_reducible apply qAg); eq_refl; eq_refl; exact (a1); eq_refl) | ((with_reducible first | apply qAd | apply qAa); (conv => lhs; whnf)) | ((with_reducible first | apply qAJ | apply qAc | apply qAe | apply qAr | apply qAZ) <;> first | ((with_reducible apply tyOk); eq_refl) | eq_refl | exact id | decide) | ((with_reducible apply qAl); exact tyOk rfl; (iterate 3 eq_refl); exact qle rfl; eq_refl)) | ((with_reducible apply rp1); first | ((with_reducible apply qAp); eq_refl; eq_refl) | ((with_reducible apply qAk); exact tyOk rfl; eq_refl)) | ((with_reducible apply qA6); eq_refl; eq_refl))
        refine qAn rfl (fun hd => absurd (h1.symm.trans hd) (by decide)) (fun hd => ?_)
        clear hd
        repeat (first | (with_reducible first | apply qAj | apply qAi | apply qAh | apply qAf | apply qAu | apply qAz | apply qAm) | ((with_reducible apply rp); first | (exact qBE (z := ((t.size + t2.size : Nat) : Int)) rfl rfl (by omega) (by omega) (by omega)) | (exact does_cat rfl rfl (by omega)) | ((with_reducible apply qAa); (conv => lhs; whnf)) | ((with_reducible apply qAc); exact tyOk rfl; eq_refl; eq_refl; decide; eq_refl) | ((with_reducible apply qAe); exact tyOk rfl; (iterate 4 eq_refl)) | ((with_reducible apply qBH); eq_refl; eq_refl) | ((with_reducible apply qCb); exact tyOk rfl; eq_refl; eq_refl) | ((with_reducible apply qAR); exact tyOk rfl; eq_refl; eq_refl; (focus repeat' (first | eq_refl | refine ⟨_, _, rfl, rfl, qle rfl, rfl, ?_⟩)); eq_refl)) | ((with_reducible apply rpN); ((with_reducible apply qAb); exact tyOk rfl; (iterate 5 eq_refl))) | ((with_reducible apply qAn); eq_refl; (focus (intro hd; (exfalso; simp at hd; omega))); (intro hd; clear hd)))
        (with_reducible apply qAA); (focus (repeat' (first | (with_reducible apply qAv) | (with_reducible apply qAq) | ((with_reducible apply qAD); eq_refl) | ((with_reducible apply qAy); eq_refl; eq_refl; exact tyOk rfl; eq_refl; eq_refl)))); eq_refl; refine SubD.of_eq ?_
        rfl
  · rw [if_neg hf]
    rw [show fitK ((4 : Nat) : Int) v w = false from eq_false_of_ne_true hf] at a1
    clear hf hv hw
    obtain ⟨k, n, b, t⟩ := v
    obtain ⟨k2, n2, b2, t2⟩ := w
    unfold Vl.cs at *
    dsimp only at *
    refine qAs Tryd.func139 rfl (by kernel_rfl) mixed (by kernel_rfl) (qle (by kernel_rfl)) Tryd.results139 ?_
    repeat (first | (with_reducible first | apply qAj | apply qAi | apply qAh | apply qAf | apply qAu | apply qAS | apply qAz) | ((with_reducible apply rp); first | ((with_reducible apply qAg); eq_refl; eq_refl; exact (a1); eq_refl) | ((with_reducible apply qAa); (conv => lhs; whnf)) | ((with_reducible apply qAl); exact tyOk rfl; (iterate 3 eq_refl); exact qle rfl; eq_refl) | ((with_reducible apply qAZ); eq_refl) | ((with_reducible apply qAV); exact tyOk rfl; eq_refl; eq_refl)) | ((with_reducible apply rp1); first | ((with_reducible apply qAp); eq_refl; eq_refl) | ((with_reducible apply qAk); exact tyOk rfl; eq_refl)) | ((with_reducible apply rpN); ((with_reducible apply qAb); exact tyOk rfl; (iterate 5 eq_refl))) | ((with_reducible apply qBq); eq_refl; eq_refl))
    (with_reducible apply qAA); (focus (repeat' (first | (with_reducible apply qAv) | (with_reducible apply qAq) | ((with_reducible apply qAD); eq_refl) | ((with_reducible apply qAy); eq_refl; eq_refl; exact tyOk rfl; eq_refl; eq_refl)))); eq_refl; refine SubD.of_eq ?_
    rfl
set_option maxHeartbeats 4000000 in
theorem reckon_n (op : Nat) (hop : op = 5 ∨ op = 6 ∨ op = 7 ∨ op = 8) (v w : Vl) (hf : fitK 2 v w = true) (h1 : (v.k == 0 || w.k == 0) = false) : PC Tryd.prog 140 [iD op, .ag v.cs, .ag w.cs] (tvD (reckN op v.n w.n)) := by
  have a1 := asked_k 2 v w
  rw [show fitK ((2 : Nat) : Int) v w = true from hf] at a1
  clear hf
  obtain ⟨k, a, b', t⟩ := v
  obtain ⟨k2, b, b2, t2⟩ := w
  unfold Vl.cs at *
  dsimp only at *
  have n1 := qCG (w64 (a + b))
  have n2 := qCG (w64 (a - b))
  have n3 := qCG (w64 (a * b))
  have n4 := qCG (w64 (Int.tdiv a b))
  have n0 := qCG 0
  unfold reckN
  rcases hop with rfl | rfl | rfl | rfl
  · rw [if_pos rfl]
    cases hb : addB a b with
    | true =>
      rw [if_pos rfl]
      unfold addB at hb
      refine qAs Tryd.func140 rfl (by kernel_rfl) mixed (by kernel_rfl) (qle (by kernel_rfl)) Tryd.results140 ?_
      repeat (first | (with_reducible first | apply qAj | apply qAi | apply qAh | apply qAf | apply qAm) | ((first | (with_reducible apply rp) | ((with_reducible apply rpG); eq_refl; exact qAP rfl; (focus repeat' (first | exact trivial | exact id | apply And.intro)); intro zg; have zh := zg; (try simp only [zs1, zs2, zs3, zs4] at zg))); first | ((with_reducible apply qAg); eq_refl; eq_refl; exact (a1); eq_refl) | ((with_reducible first | apply qAd | apply qAa); (conv => lhs; whnf)) | ((with_reducible first | apply qAJ | apply qAc | apply qAe | apply qAr | apply qAZ) <;> first | ((with_reducible apply tyOk); eq_refl) | eq_refl | exact id | decide) | ((with_reducible apply qAl); exact tyOk rfl; (iterate 3 eq_refl); exact qle rfl; eq_refl)) | ((with_reducible apply rp1); first | ((with_reducible apply qAp); eq_refl; eq_refl) | ((with_reducible apply qAk); exact tyOk rfl; eq_refl)) | ((with_reducible apply qA6); eq_refl; eq_refl))
      refine qAn rfl (fun hd => absurd (h1.symm.trans hd) (by decide)) (fun hd => ?_)
      clear hd
      repeat (first | (with_reducible first | apply qAj | apply qAi | apply qAh | apply qAf | apply qA4 | apply qAo | apply qAm) | ((with_reducible apply qBg); (first | kernel_rfl | eq_refl)) | ((first | (with_reducible first | apply rp | apply dr) | ((with_reducible apply rpG); eq_refl; exact qAP rfl; (focus repeat' (first | exact trivial | exact id | apply And.intro)); intro zg; have zh := zg; (try simp only [zs1, zs2, zs3, zs4] at zg))); first | (exact qFM rfl rfl) | ((with_reducible first | apply qAd | apply qAa); (conv => lhs; whnf)) | ((with_reducible first | apply qAJ | apply qAc | apply qAe | apply qAr | apply qBH) <;> first | ((with_reducible apply tyOk); eq_refl) | eq_refl | exact id | decide) | ((with_reducible apply qFd); exact tyOk rfl; (iterate 4 eq_refl))) | ((with_reducible apply qBq); eq_refl; eq_refl))
      refine qAn rfl (fun _ => ?_) (fun hd => absurd (hb.symm.trans hd) (by decide))
      repeat (first | (with_reducible first | apply qAj | apply qAi | apply qAh | apply qAf | apply qAu | apply qAS | apply qBc | apply qAz) | ((with_reducible apply rp); first | ((with_reducible apply qAg); eq_refl; eq_refl; exact (n1); eq_refl) | ((with_reducible apply qAd); (conv => lhs; whnf)) | ((with_reducible apply qAa); (conv => lhs; whnf))) | ((with_reducible apply rpN); ((with_reducible apply qAb); exact tyOk rfl; (iterate 5 eq_refl))))
      (with_reducible apply qAA); (focus (repeat' (first | (with_reducible apply qAv) | (with_reducible apply qAq) | ((with_reducible apply qAD); eq_refl) | ((with_reducible apply qAy); eq_refl; eq_refl; exact tyOk rfl; eq_refl; eq_refl)))); eq_refl; refine SubD.of_eq ?_
      rfl
    | false =>
      rw [if_neg (by decide)]
      unfold addB at hb
      refine qAs Tryd.func140 rfl (by kernel_rfl) mixed (by kernel_rfl) (qle (by kernel_rfl)) Tryd.results140 ?_
      repeat (first | (with_reducible first | apply qAj | apply qAi | apply qAh | apply qAf | apply qAm) | ((first | (with_reducible apply rp) | ((with_reducible apply rpG); eq_refl; exact qAP rfl; (focus repeat' (first | exact trivial | exact id | apply And.intro)); intro zg; have zh := zg; (try simp only [zs1, zs2, zs3, zs4] at zg))); first | ((with_reducible apply qAg); eq_refl; eq_refl; exact (a1); eq_refl) | ((with_reducible first | apply qAd | apply qAa); (conv => lhs; whnf)) | ((with_reducible first | apply qAJ | apply qAc | apply qAe | apply qAr | apply qAZ) <;> first | ((with_reducible apply tyOk); eq_refl) | eq_refl | exact id | decide) | ((with_reducible apply qAl); exact tyOk rfl; (iterate 3 eq_refl); exact qle rfl; eq_refl)) | ((with_reducible apply rp1); first | ((with_reducible apply qAp); eq_refl; eq_refl) | ((with_reducible apply qAk); exact tyOk rfl; eq_refl)) | ((with_reducible apply qA6); eq_refl; eq_refl))
      refine qAn rfl (fun hd => absurd (h1.symm.trans hd) (by decide)) (fun hd => ?_)
      clear hd
      repeat (first | (with_reducible first | apply qAj | apply qAi | apply qAh | apply qAf | apply qA4 | apply qAo | apply qAm) | ((with_reducible apply qBg); (first | kernel_rfl | eq_refl)) | ((first | (with_reducible first | apply rp | apply dr) | ((with_reducible apply rpG); eq_refl; exact qAP rfl; (focus repeat' (first | exact trivial | exact id | apply And.intro)); intro zg; have zh := zg; (try simp only [zs1, zs2, zs3, zs4] at zg))); first | (exact qFM rfl rfl) | ((with_reducible first | apply qAd | apply qAa); (conv => lhs; whnf)) | ((with_reducible first | apply qAJ | apply qAc | apply qAe | apply qAr | apply qBH) <;> first | ((with_reducible apply tyOk); eq_refl) | eq_refl | exact id | decide) | ((with_reducible apply qFd); exact tyOk rfl; (iterate 4 eq_refl))) | ((with_reducible apply qBq); eq_refl; eq_refl))
      refine qAn rfl (fun hd => absurd (hb.symm.trans hd) (by decide)) (fun _ => ?_)
      repeat (first | (with_reducible first | apply qAj | apply qAi | apply qAh | apply qAf | apply qAF | apply qAu | apply qAz | apply qAm) | ((with_reducible apply rp); first | ((with_reducible apply qAa); (conv => lhs; whnf)) | ((with_reducible apply qAV); exact tyOk rfl; eq_refl; eq_refl)) | ((with_reducible apply rpN); ((with_reducible apply qAb); exact tyOk rfl; (iterate 5 eq_refl))))
      (with_reducible apply qAA); (focus (repeat' (first | (with_reducible apply qAv) | (with_reducible apply qAq) | ((with_reducible apply qAD); eq_refl) | ((with_reducible apply qAy); eq_refl; eq_refl; exact tyOk rfl; eq_refl; eq_refl)))); eq_refl; refine SubD.of_eq ?_
      rfl
  · rw [if_neg (by decide), if_pos rfl]
    cases hb : subB a b with
    | true =>
      rw [if_pos rfl]
      unfold subB at hb
      refine qAs Tryd.func140 rfl (by kernel_rfl) mixed (by kernel_rfl) (qle (by kernel_rfl)) Tryd.results140 ?_
      repeat (first | (with_reducible first | apply qAj | apply qAi | apply qAh | apply qAf | apply qAm) | ((first | (with_reducible apply rp) | ((with_reducible apply rpG); eq_refl; exact qAP rfl; (focus repeat' (first | exact trivial | exact id | apply And.intro)); intro zg; have zh := zg; (try simp only [zs1, zs2, zs3, zs4] at zg))); first | ((with_reducible apply qAg); eq_refl; eq_refl; exact (a1); eq_refl) | ((with_reducible first | apply qAd | apply qAa); (conv => lhs; whnf)) | ((with_reducible first | apply qAJ | apply qAc | apply qAe | apply qAr | apply qAZ) <;> first | ((with_reducible apply tyOk); eq_refl) | eq_refl | exact id | decide) | ((with_reducible apply qAl); exact tyOk rfl; (iterate 3 eq_refl); exact qle rfl; eq_refl)) | ((with_reducible apply rp1); first | ((with_reducible apply qAp); eq_refl; eq_refl) | ((with_reducible apply qAk); exact tyOk rfl; eq_refl)) | ((with_reducible apply qA6); eq_refl; eq_refl))
      refine qAn rfl (fun hd => absurd (h1.symm.trans hd) (by decide)) (fun hd => ?_)
      clear hd
      repeat (first | (with_reducible first | apply qAj | apply qAi | apply qAh | apply qAf | apply qA4 | apply qAo | apply qAm) | ((with_reducible apply qBg); (first | kernel_rfl | eq_refl)) | ((first | (with_reducible first | apply rp | apply dr) | ((with_reducible apply rpG); eq_refl; exact qAP rfl; (focus repeat' (first | exact trivial | exact id | apply And.intro)); intro zg; have zh := zg; (try simp only [zs1, zs2, zs3, zs4] at zg))); first | (exact qF1 rfl rfl) | ((with_reducible first | apply qAd | apply qAa); (conv => lhs; whnf)) | ((with_reducible first | apply qAJ | apply qAc | apply qAe | apply qAr | apply qAN | apply qBH) <;> first | ((with_reducible apply tyOk); eq_refl) | eq_refl | exact id | decide) | ((with_reducible apply qFd); exact tyOk rfl; (iterate 4 eq_refl))) | ((with_reducible apply qA6); eq_refl; eq_refl) | ((with_reducible apply qBq); eq_refl; eq_refl))
      refine qAn rfl (fun _ => ?_) (fun hd => absurd (hb.symm.trans hd) (by decide))
      repeat (first | (with_reducible first | apply qAj | apply qAi | apply qAh | apply qAf | apply qAu | apply qAS | apply qBc | apply qAz) | ((with_reducible apply rp); first | ((with_reducible apply qAg); eq_refl; eq_refl; exact (n2); eq_refl) | ((with_reducible apply qAd); (conv => lhs; whnf)) | ((with_reducible apply qAa); (conv => lhs; whnf))) | ((with_reducible apply rpN); ((with_reducible apply qAb); exact tyOk rfl; (iterate 5 eq_refl))))
      (with_reducible apply qAA); (focus (repeat' (first | (with_reducible apply qAv) | (with_reducible apply qAq) | ((with_reducible apply qAD); eq_refl) | ((with_reducible apply qAy); eq_refl; eq_refl; exact tyOk rfl; eq_refl; eq_refl)))); eq_refl; refine SubD.of_eq ?_
      rfl
    | false =>
      rw [if_neg (by decide)]
      unfold subB at hb
      refine qAs Tryd.func140 rfl (by kernel_rfl) mixed (by kernel_rfl) (qle (by kernel_rfl)) Tryd.results140 ?_
      repeat (first | (with_reducible first | apply qAj | apply qAi | apply qAh | apply qAf | apply qAm) | ((first | (with_reducible apply rp) | ((with_reducible apply rpG); eq_refl; exact qAP rfl; (focus repeat' (first | exact trivial | exact id | apply And.intro)); intro zg; have zh := zg; (try simp only [zs1, zs2, zs3, zs4] at zg))); first | ((with_reducible apply qAg); eq_refl; eq_refl; exact (a1); eq_refl) | ((with_reducible first | apply qAd | apply qAa); (conv => lhs; whnf)) | ((with_reducible first | apply qAJ | apply qAc | apply qAe | apply qAr | apply qAZ) <;> first | ((with_reducible apply tyOk); eq_refl) | eq_refl | exact id | decide) | ((with_reducible apply qAl); exact tyOk rfl; (iterate 3 eq_refl); exact qle rfl; eq_refl)) | ((with_reducible apply rp1); first | ((with_reducible apply qAp); eq_refl; eq_refl) | ((with_reducible apply qAk); exact tyOk rfl; eq_refl)) | ((with_reducible apply qA6); eq_refl; eq_refl))
      refine qAn rfl (fun hd => absurd (h1.symm.trans hd) (by decide)) (fun hd => ?_)
      clear hd
      repeat (first | (with_reducible first | apply qAj | apply qAi | apply qAh | apply qAf | apply qA4 | apply qAo | apply qAm) | ((with_reducible apply qBg); (first | kernel_rfl | eq_refl)) | ((first | (with_reducible first | apply rp | apply dr) | ((with_reducible apply rpG); eq_refl; exact qAP rfl; (focus repeat' (first | exact trivial | exact id | apply And.intro)); intro zg; have zh := zg; (try simp only [zs1, zs2, zs3, zs4] at zg))); first | (exact qF1 rfl rfl) | ((with_reducible first | apply qAd | apply qAa); (conv => lhs; whnf)) | ((with_reducible first | apply qAJ | apply qAc | apply qAe | apply qAr | apply qAN | apply qBH) <;> first | ((with_reducible apply tyOk); eq_refl) | eq_refl | exact id | decide) | ((with_reducible apply qFd); exact tyOk rfl; (iterate 4 eq_refl))) | ((with_reducible apply qA6); eq_refl; eq_refl) | ((with_reducible apply qBq); eq_refl; eq_refl))
      refine qAn rfl (fun hd => absurd (hb.symm.trans hd) (by decide)) (fun _ => ?_)
      repeat (first | (with_reducible first | apply qAj | apply qAi | apply qAh | apply qAf | apply qAF | apply qAu | apply qAz | apply qAm) | ((with_reducible apply rp); first | ((with_reducible apply qAa); (conv => lhs; whnf)) | ((with_reducible apply qAV); exact tyOk rfl; eq_refl; eq_refl)) | ((with_reducible apply rpN); ((with_reducible apply qAb); exact tyOk rfl; (iterate 5 eq_refl))))
      (with_reducible apply qAA); (focus (repeat' (first | (with_reducible apply qAv) | (with_reducible apply qAq) | ((with_reducible apply qAD); eq_refl) | ((with_reducible apply qAy); eq_refl; eq_refl; exact tyOk rfl; eq_refl; eq_refl)))); eq_refl; refine SubD.of_eq ?_
      rfl
  · rw [if_neg (by decide), if_neg (by decide), if_pos rfl]
    by_cases h0 : a = 0 ∨ b = 0
    · rw [if_pos h0]
      have hz : (a == 0 || b == 0) = true := by simpa using h0
      clear h0
      refine qAs Tryd.func140 rfl (by kernel_rfl) mixed (by kernel_rfl) (qle (by kernel_rfl)) Tryd.results140 ?_
      repeat (first | (with_reducible first | apply qAj | apply qAi | apply qAh | apply qAf | apply qAm) | ((first | (with_reducible apply rp) | ((with_reducible apply rpG); eq_refl; exact qAP rfl; (focus repeat' (first | exact trivial | exact id | apply And.intro)); intro zg; have zh := zg; (try simp only [zs1, zs2, zs3, zs4] at zg))); first | ((with_reducible apply qAg); eq_refl; eq_refl; exact (a1); eq_refl) | ((with_reducible first | apply qAd | apply qAa); (conv => lhs; whnf)) | ((with_reducible first | apply qAJ | apply qAc | apply qAe | apply qAr | apply qAZ) <;> first | ((with_reducible apply tyOk); eq_refl) | eq_refl | exact id | decide) | ((with_reducible apply qAl); exact tyOk rfl; (iterate 3 eq_refl); exact qle rfl; eq_refl)) | ((with_reducible apply rp1); first | ((with_reducible apply qAp); eq_refl; eq_refl) | ((with_reducible apply qAk); exact tyOk rfl; eq_refl)) | ((with_reducible apply qA6); eq_refl; eq_refl))
      refine qAn rfl (fun hd => absurd (h1.symm.trans hd) (by decide)) (fun hd => ?_)
      clear hd
      repeat (first | (with_reducible first | apply qAj | apply qAi | apply qAh | apply qAf | apply qA4 | apply qAo | apply qAm) | ((with_reducible apply qBg); (first | kernel_rfl | eq_refl)) | ((first | (with_reducible first | apply rp | apply dr) | ((with_reducible apply rpG); eq_refl; exact qAP rfl; (focus repeat' (first | exact trivial | exact id | apply And.intro)); intro zg; have zh := zg; (try simp only [zs1, zs2, zs3, zs4] at zg))); first | ((with_reducible first | apply qAd | apply qAa); (conv => lhs; whnf)) | ((with_reducible first | apply qAJ | apply qAc | apply qAe | apply qAr) <;> first | ((with_reducible apply tyOk); eq_refl) | eq_refl | exact id | decide)) | ((with_reducible apply qA6); eq_refl; eq_refl) | ((with_reducible apply qBq); eq_refl; eq_refl))
      refine qAn rfl (fun _ => ?_) (fun hd => absurd (hz.symm.trans hd) (by decide))
      repeat (first | (with_reducible first | apply qAj | apply qAi | apply qAh | apply qAf | apply qAu | apply qAS | apply qBc | apply qAz) | ((with_reducible apply rp); first | ((with_reducible apply qAg); eq_refl; eq_refl; exact (n0); eq_refl) | ((with_reducible apply qAa); (conv => lhs; whnf))) | ((with_reducible apply rpN); ((with_reducible apply qAb); exact tyOk rfl; (iterate 5 eq_refl))))
      (with_reducible apply qAA); (focus (repeat' (first | (with_reducible apply qAv) | (with_reducible apply qAq) | ((with_reducible apply qAD); eq_refl) | ((with_reducible apply qAy); eq_refl; eq_refl; exact tyOk rfl; eq_refl; eq_refl)))); eq_refl; refine SubD.of_eq ?_
      rfl
    · rw [if_neg h0]
      have hz : (a == 0 || b == 0) = false := by simpa using h0
      have hb0 : b ≠ 0 := fun h => h0 (.inr h)
      clear h0
      cases hb : mulB a b with
      | true =>
        rw [if_pos rfl]
        unfold mulB at hb
        refine qAs Tryd.func140 rfl (by kernel_rfl) mixed (by kernel_rfl) (qle (by kernel_rfl)) Tryd.results140 ?_
        repeat (first | (with_reducible first | apply qAj | apply qAi | apply qAh | apply qAf | apply qAm) | ((first | (with_reducible apply rp) | ((with_reducible apply rpG); eq_refl; exact qAP rfl; (focus repeat' (first | exact trivial | exact id | apply And.intro)); intro zg; have zh := zg; (try simp only [zs1, zs2, zs3, zs4] at zg))); first | ((with_reducible apply qAg); eq_refl; eq_refl; exact (a1); eq_refl) | ((with_reducible first | apply qAd | apply qAa); (conv => lhs; whnf)) | ((with_reducible first | apply qAJ | apply qAc | apply qAe | apply qAr | apply qAZ) <;> first | ((with_reducible apply tyOk); eq_refl) | eq_refl | exact id | decide) | ((with_reducible apply qAl); exact tyOk rfl; (iterate 3 eq_refl); exact qle rfl; eq_refl)) | ((with_reducible apply rp1); first | ((with_reducible apply qAp); eq_refl; eq_refl) | ((with_reducible apply qAk); exact tyOk rfl; eq_refl)) | ((with_reducible apply qA6); eq_refl; eq_refl))
        refine qAn rfl (fun hd => absurd (h1.symm.trans hd) (by decide)) (fun hd => ?_)
        clear hd
        repeat (first | (with_reducible first | apply qAj | apply qAi | apply qAh | apply qAf | apply qA4 | apply qAo | apply qAm) | ((with_reducible apply qBg); (first | kernel_rfl | eq_refl)) | ((first | (with_reducible first | apply rp | apply dr) | ((with_reducible apply rpG); eq_refl; exact qAP rfl; (focus repeat' (first | exact trivial | exact id | apply And.intro)); intro zg; have zh := zg; (try simp only [zs1, zs2, zs3, zs4] at zg))); first | ((with_reducible first | apply qAd | apply qAa); (conv => lhs; whnf)) | ((with_reducible first | apply qAJ | apply qAc | apply qAe | apply qAr) <;> first | ((with_reducible apply tyOk); eq_refl) | eq_refl | exact id | decide)) | ((with_reducible apply qA6); eq_refl; eq_refl) | ((with_reducible apply qBq); eq_refl; eq_refl))
        refine qAn rfl (fun hd => absurd (hz.symm.trans hd) (by decide)) (fun _ => ?_)
        repeat (first | (with_reducible first | apply qAj | apply qAi | apply qAh | apply qAf | apply qAm) | ((first | (with_reducible apply rp) | ((with_reducible apply rpG); eq_refl; (first | exact qAT rfl | exact qBk rfl); (focus repeat' (first | exact trivial | exact id | apply And.intro | (intro h; simp_all))); intro zg; have zh := zg; (try simp only [zs1, zs2, zs3, zs4] at zg))); first | (exact qFW rfl rfl) | ((with_reducible first | apply qAd | apply qAa); (conv => lhs; whnf)) | ((with_reducible apply qAM); (iterate 3 eq_refl); (first | exact id | (intro h; (rw [zh, h]; rfl)))) | ((with_reducible first | apply qAr | apply qAZ) <;> eq_refl) | ((with_reducible apply qDF); eq_refl; eq_refl; omega)) | ((first | (with_reducible apply rpGP) | (with_reducible apply drGP)); eq_refl; (first | exact qAT rfl | exact qBk rfl); (focus repeat' (first | exact trivial | exact id | apply And.intro | (intro h; simp_all))); (intro zg; have zh := zg; (try simp only [zs1, zs2, zs3, zs4] at zg); first | ((with_reducible apply qAJ); (iterate 3 eq_refl); (first | exact id | (intro h; (rw [zh, h]; rfl)))) | ((with_reducible apply qAM); (iterate 3 eq_refl); (first | exact id | (intro h; (rw [zh, h]; rfl)))))))
        refine qAn rfl (fun _ => ?_) (fun hd => absurd (hb.symm.trans hd) (by decide))
        repeat (first | (with_reducible first | apply qAj | apply qAi | apply qAh | apply qAf | apply qAu | apply qAS | apply qBc | apply qAz) | ((with_reducible apply rp); first | ((with_reducible apply qAg); eq_refl; eq_refl; exact (n3); eq_refl) | ((with_reducible apply qAd); (conv => lhs; whnf)) | ((with_reducible apply qAa); (conv => lhs; whnf))) | ((with_reducible apply rpN); ((with_reducible apply qAb); exact tyOk rfl; (iterate 5 eq_refl))))
        (with_reducible apply qAA); (focus (repeat' (first | (with_reducible apply qAv) | (with_reducible apply qAq) | ((with_reducible apply qAD); eq_refl) | ((with_reducible apply qAy); eq_refl; eq_refl; exact tyOk rfl; eq_refl; eq_refl)))); eq_refl; refine SubD.of_eq ?_
        rfl
      | false =>
        rw [if_neg (by decide)]
        unfold mulB at hb
        refine qAs Tryd.func140 rfl (by kernel_rfl) mixed (by kernel_rfl) (qle (by kernel_rfl)) Tryd.results140 ?_
        repeat (first | (with_reducible first | apply qAj | apply qAi | apply qAh | apply qAf | apply qAm) | ((first | (with_reducible apply rp) | ((with_reducible apply rpG); eq_refl; exact qAP rfl; (focus repeat' (first | exact trivial | exact id | apply And.intro)); intro zg; have zh := zg; (try simp only [zs1, zs2, zs3, zs4] at zg))); first | ((with_reducible apply qAg); eq_refl; eq_refl; exact (a1); eq_refl) | ((with_reducible first | apply qAd | apply qAa); (conv => lhs; whnf)) | ((with_reducible first | apply qAJ | apply qAc | apply qAe | apply qAr | apply qAZ) <;> first | ((with_reducible apply tyOk); eq_refl) | eq_refl | exact id | decide) | ((with_reducible apply qAl); exact tyOk rfl; (iterate 3 eq_refl); exact qle rfl; eq_refl)) | ((with_reducible apply rp1); first | ((with_reducible apply qAp); eq_refl; eq_refl) | ((with_reducible apply qAk); exact tyOk rfl; eq_refl)) | ((with_reducible apply qA6); eq_refl; eq_refl))
        refine qAn rfl (fun hd => absurd (h1.symm.trans hd) (by decide)) (fun hd => ?_)
        clear hd
        repeat (first | (with_reducible first | apply qAj | apply qAi | apply qAh | apply qAf | apply qA4 | apply qAo | apply qAm) | ((with_reducible apply qBg); (first | kernel_rfl | eq_refl)) | ((first | (with_reducible first | apply rp | apply dr) | ((with_reducible apply rpG); eq_refl; exact qAP rfl; (focus repeat' (first | exact trivial | exact id | apply And.intro)); intro zg; have zh := zg; (try simp only [zs1, zs2, zs3, zs4] at zg))); first | ((with_reducible first | apply qAd | apply qAa); (conv => lhs; whnf)) | ((with_reducible first | apply qAJ | apply qAc | apply qAe | apply qAr) <;> first | ((with_reducible apply tyOk); eq_refl) | eq_refl | exact id | decide)) | ((with_reducible apply qA6); eq_refl; eq_refl) | ((with_reducible apply qBq); eq_refl; eq_refl))
        refine qAn rfl (fun hd => absurd (hz.symm.trans hd) (by decide)) (fun _ => ?_)
        repeat (first | (with_reducible first | apply qAj | apply qAi | apply qAh | apply qAf | apply qAm) | ((first | (with_reducible apply rp) | ((with_reducible apply rpG); eq_refl; (first | exact qAT rfl | exact qBk rfl); (focus repeat' (first | exact trivial | exact id | apply And.intro | (intro h; simp_all))); intro zg; have zh := zg; (try simp only [zs1, zs2, zs3, zs4] at zg))); first | (exact qFW rfl rfl) | ((with_reducible first | apply qAd | apply qAa); (conv => lhs; whnf)) | ((with_reducible apply qAM); (iterate 3 eq_refl); (first | exact id | (intro h; (rw [zh, h]; rfl)))) | ((with_reducible first | apply qAr | apply qAZ) <;> eq_refl) | ((with_reducible apply qDF); eq_refl; eq_refl; omega)) | ((first | (with_reducible apply rpGP) | (with_reducible apply drGP)); eq_refl; (first | exact qAT rfl | exact qBk rfl); (focus repeat' (first | exact trivial | exact id | apply And.intro | (intro h; simp_all))); (intro zg; have zh := zg; (try simp only [zs1, zs2, zs3, zs4] at zg); first | ((with_reducible apply qAJ); (iterate 3 eq_refl); (first | exact id | (intro h; (rw [zh, h]; rfl)))) | ((with_reducible apply qAM); (iterate 3 eq_refl); (first | exact id | (intro h; (rw [zh, h]; rfl)))))))
        refine qAn rfl (fun hd => absurd (hb.symm.trans hd) (by decide)) (fun _ => ?_)
        repeat (first | (with_reducible first | apply qAj | apply qAi | apply qAh | apply qAf | apply qAF | apply qAu | apply qAz | apply qAm) | ((with_reducible apply rp); first | ((with_reducible apply qAa); (conv => lhs; whnf)) | ((with_reducible apply qAV); exact tyOk rfl; eq_refl; eq_refl)) | ((with_reducible apply rpN); ((with_reducible apply qAb); exact tyOk rfl; (iterate 5 eq_refl))))
        (with_reducible apply qAA); (focus (repeat' (first | (with_reducible apply qAv) | (with_reducible apply qAq) | ((with_reducible apply qAD); eq_refl) | ((with_reducible apply qAy); eq_refl; eq_refl; exact tyOk rfl; eq_refl; eq_refl)))); eq_refl; refine SubD.of_eq ?_
        rfl
  · rw [if_neg (by decide), if_neg (by decide), if_neg (by decide)]
    by_cases hb0 : b = 0
    · subst hb0
      rw [if_pos rfl]
      refine qAs Tryd.func140 rfl (by kernel_rfl) mixed (by kernel_rfl) (qle (by kernel_rfl)) Tryd.results140 ?_
      repeat (first | (with_reducible first | apply qAj | apply qAi | apply qAh | apply qAf | apply qAm) | ((first | (with_reducible apply rp) | ((with_reducible apply rpG); eq_refl; exact qAP rfl; (focus repeat' (first | exact trivial | exact id | apply And.intro)); intro zg; have zh := zg; (try simp only [zs1, zs2, zs3, zs4] at zg))); first | ((with_reducible apply qAg); eq_refl; eq_refl; exact (a1); eq_refl) | ((with_reducible first | apply qAd | apply qAa); (conv => lhs; whnf)) | ((with_reducible first | apply qAJ | apply qAc | apply qAe | apply qAr | apply qAZ) <;> first | ((with_reducible apply tyOk); eq_refl) | eq_refl | exact id | decide) | ((with_reducible apply qAl); exact tyOk rfl; (iterate 3 eq_refl); exact qle rfl; eq_refl)) | ((with_reducible apply rp1); first | ((with_reducible apply qAp); eq_refl; eq_refl) | ((with_reducible apply qAk); exact tyOk rfl; eq_refl)) | ((with_reducible apply qA6); eq_refl; eq_refl))
      refine qAn rfl (fun hd => absurd (h1.symm.trans hd) (by decide)) (fun hd => ?_)
      clear hd
      repeat (first | (with_reducible first | apply qAj | apply qAi | apply qAh | apply qAf | apply qA4 | apply qAo | apply qAu | apply qAS | apply qBc | apply qAz | apply qAm) | ((with_reducible apply qBg); (first | kernel_rfl | eq_refl)) | ((with_reducible first | apply rp | apply dr); first | ((with_reducible first | apply qAd | apply qAa); (conv => lhs; whnf)) | ((with_reducible first | apply qAc | apply qAe | apply qAr | apply qAV) <;> first | ((with_reducible apply tyOk); eq_refl) | eq_refl | decide)) | ((with_reducible apply rpN); ((with_reducible apply qAb); exact tyOk rfl; (iterate 5 eq_refl))) | ((with_reducible apply qA6); eq_refl; eq_refl) | ((with_reducible apply qBq); eq_refl; eq_refl))
      (with_reducible apply qAA); (focus (repeat' (first | (with_reducible apply qAv) | (with_reducible apply qAq) | ((with_reducible apply qAD); eq_refl) | ((with_reducible apply qAy); eq_refl; eq_refl; exact tyOk rfl; eq_refl; eq_refl)))); eq_refl; refine SubD.of_eq ?_
      rfl
    · rw [if_neg hb0]
      by_cases hm : a = -9223372036854775808 ∧ b = -1
      · rw [if_pos hm]
        have hc : (!(a == -9223372036854775808 && b == -1)) = false := by rw [hm.1, hm.2]; rfl
        clear hm
        refine qAs Tryd.func140 rfl (by kernel_rfl) mixed (by kernel_rfl) (qle (by kernel_rfl)) Tryd.results140 ?_
        repeat (first | (with_reducible first | apply qAj | apply qAi | apply qAh | apply qAf | apply qAm) | ((first | (with_reducible apply rp) | ((with_reducible apply rpG); eq_refl; exact qAP rfl; (focus repeat' (first | exact trivial | exact id | apply And.intro)); intro zg; have zh := zg; (try simp only [zs1, zs2, zs3, zs4] at zg))); first | ((with_reducible apply qAg); eq_refl; eq_refl; exact (a1); eq_refl) | ((with_reducible first | apply qAd | apply qAa); (conv => lhs; whnf)) | ((with_reducible first | apply qAJ | apply qAc | apply qAe | apply qAr | apply qAZ) <;> first | ((with_reducible apply tyOk); eq_refl) | eq_refl | exact id | decide) | ((with_reducible apply qAl); exact tyOk rfl; (iterate 3 eq_refl); exact qle rfl; eq_refl)) | ((with_reducible apply rp1); first | ((with_reducible apply qAp); eq_refl; eq_refl) | ((with_reducible apply qAk); exact tyOk rfl; eq_refl)) | ((with_reducible apply qA6); eq_refl; eq_refl))
        refine qAn rfl (fun hd => absurd (h1.symm.trans hd) (by decide)) (fun hd => ?_)
        clear hd
        repeat (first | (with_reducible first | apply qAj | apply qAi | apply qAh | apply qAf | apply qA4 | apply qAo | apply qAm) | ((with_reducible apply qBg); (first | kernel_rfl | eq_refl)) | ((first | (with_reducible first | apply rp | apply dr) | ((with_reducible apply rpG); eq_refl; exact qAT rfl; (focus repeat' (first | exact trivial | exact id | apply And.intro)); intro zg; have zh := zg; (try simp only [zs1, zs2, zs3, zs4] at zg))); first | ((with_reducible first | apply qAd | apply qAa); (conv => lhs; whnf)) | ((with_reducible first | apply qAM | apply qAc | apply qAe | apply qAr | apply qAZ) <;> first | ((with_reducible apply tyOk); eq_refl) | eq_refl | exact id | decide)) | ((with_reducible apply qAn); eq_refl; (focus (intro hd; (first | (cases hd; done) | (exfalso; simp at hd; omega)))); (intro hd; clear hd)))
        refine qAn rfl (fun hd => absurd (hc.symm.trans hd) (by decide)) (fun _ => ?_)
        repeat (first | (with_reducible first | apply qAj | apply qAi | apply qAh | apply qAf | apply qAF | apply qAu | apply qAz | apply qAm) | ((with_reducible apply rp); first | ((with_reducible apply qAa); (conv => lhs; whnf)) | ((with_reducible apply qAV); exact tyOk rfl; eq_refl; eq_refl)) | ((with_reducible apply rpN); ((with_reducible apply qAb); exact tyOk rfl; (iterate 5 eq_refl))))
        (with_reducible apply qAA); (focus (repeat' (first | (with_reducible apply qAv) | (with_reducible apply qAq) | ((with_reducible apply qAD); eq_refl) | ((with_reducible apply qAy); eq_refl; eq_refl; exact tyOk rfl; eq_refl; eq_refl)))); eq_refl; refine SubD.of_eq ?_
        rfl
      · rw [if_neg hm]
        have hc : (!(a == -9223372036854775808 && b == -1)) = true := by
          rw [Bool.not_eq_true', Bool.and_eq_false_iff]
          by_cases ha : a = -9223372036854775808
          · exact .inr (beq_eq_false_iff_ne.2 fun h => hm ⟨ha, h⟩)
          · exact .inl (beq_eq_false_iff_ne.2 ha)
        clear hm
        refine qAs Tryd.func140 rfl (by kernel_rfl) mixed (by kernel_rfl) (qle (by kernel_rfl)) Tryd.results140 ?_
        repeat (first | (with_reducible first | apply qAj | apply qAi | apply qAh | apply qAf | apply qAm) | ((first | (with_reducible apply rp) | ((with_reducible apply rpG); eq_refl; exact qAP rfl; (focus repeat' (first | exact trivial | exact id | apply And.intro)); intro zg; have zh := zg; (try simp only [zs1, zs2, zs3, zs4] at zg))); first | ((with_reducible apply qAg); eq_refl; eq_refl; exact (a1); eq_refl) | ((with_reducible first | apply qAd | apply qAa); (conv => lhs; whnf)) | ((with_reducible first | apply qAJ | apply qAc | apply qAe | apply qAr | apply qAZ) <;> first | ((with_reducible apply tyOk); eq_refl) | eq_refl | exact id | decide) | ((with_reducible apply qAl); exact tyOk rfl; (iterate 3 eq_refl); exact qle rfl; eq_refl)) | ((with_reducible apply rp1); first | ((with_reducible apply qAp); eq_refl; eq_refl) | ((with_reducible apply qAk); exact tyOk rfl; eq_refl)) | ((with_reducible apply qA6); eq_refl; eq_refl))
        refine qAn rfl (fun hd => absurd (h1.symm.trans hd) (by decide)) (fun hd => ?_)
        clear hd
        repeat (first | (with_reducible first | apply qAj | apply qAi | apply qAh | apply qAf | apply qA4 | apply qAo | apply qAm) | ((with_reducible apply qBg); (first | kernel_rfl | eq_refl)) | ((first | (with_reducible first | apply rp | apply dr) | ((with_reducible apply rpG); eq_refl; exact qAT rfl; (focus repeat' (first | exact trivial | exact id | apply And.intro)); intro zg; have zh := zg; (try simp only [zs1, zs2, zs3, zs4] at zg))); first | ((with_reducible first | apply qAd | apply qAa); (conv => lhs; whnf)) | ((with_reducible first | apply qAM | apply qAc | apply qAe | apply qAr | apply qAZ) <;> first | ((with_reducible apply tyOk); eq_refl) | eq_refl | exact id | decide)) | ((with_reducible apply qAn); eq_refl; (focus (intro hd; (first | (cases hd; done) | (exfalso; simp at hd; omega)))); (intro hd; clear hd)))
        refine qAn rfl (fun _ => ?_) (fun hd => absurd (hc.symm.trans hd) (by decide))
        repeat (first | (with_reducible first | apply qAj | apply qAi | apply qAh | apply qAf | apply qAu | apply qAS | apply qBc | apply qAz) | ((with_reducible apply rp); first | ((with_reducible apply qAg); eq_refl; eq_refl; exact (n4); eq_refl) | ((with_reducible apply qAd); (conv => lhs; whnf)) | ((with_reducible apply qAa); (conv => lhs; whnf)) | ((with_reducible apply qDF); eq_refl; eq_refl; omega)) | ((with_reducible apply rpN); ((with_reducible apply qAb); exact tyOk rfl; (iterate 5 eq_refl))))
        (with_reducible apply qAA); (focus (repeat' (first | (with_reducible apply qAv) | (with_reducible apply qAq) | ((with_reducible apply qAD); eq_refl) | ((with_reducible apply qAy); eq_refl; eq_refl; exact tyOk rfl; eq_refl; eq_refl)))); eq_refl; refine SubD.of_eq ?_
        rfl
theorem reckon_pc (op : Nat) (hop : op = 5 ∨ op = 6 ∨ op = 7 ∨ op = 8) (v w : Vl) : PC Tryd.prog 140 [iD op, .ag v.cs, .ag w.cs] (tvD (reckF op v w)) := by
  unfold reckF
  by_cases hf : fitK 2 v w = true
  · rw [if_pos hf]
    by_cases h0 : v.k = 0 ∨ w.k = 0
    · rw [if_pos h0]
      have h1 : (v.k == 0 || w.k == 0) = true := by simpa using h0
      have a1 := asked_k 2 v w
      rw [show fitK ((2 : Nat) : Int) v w = true from hf] at a1
      clear h0 hf hop
      obtain ⟨k, n, b, t⟩ := v
      obtain ⟨k2, n2, b2, t2⟩ := w
      unfold Vl.cs at *
      dsimp only at *
      refine qAs Tryd.func140 rfl (by kernel_rfl) mixed (by kernel_rfl) (qle (by kernel_rfl)) Tryd.results140 ?_
      repeat (first | (with_reducible first | apply qAj | apply qAi | apply qAh | apply qAf | apply qAm) | ((first | (with_reducible apply rp) | ((with_reducible apply rpG); eq_refl; exact qAP rfl; (focus repeat' (first | exact trivial | exact id | apply And.intro)); intro zg; have zh := zg; (try simp only [zs1, zs2, zs3, zs4] at zg))); first | ((with_reducible apply qAg); eq_refl; eq_refl; exact (a1); eq_refl) | ((with_reducible first | apply qAd | apply qAa); (conv => lhs; whnf)) | ((with_reducible first | apply qAJ | apply qAc | apply qAe | apply qAr | apply qAZ) <;> first | ((with_reducible apply tyOk); eq_refl) | eq_refl | exact id | decide) | ((with_reducible apply qAl); exact tyOk rfl; (iterate 3 eq_refl); exact qle rfl; eq_refl)) | ((with_reducible apply rp1); first | ((with_reducible apply qAp); eq_refl; eq_refl) | ((with_reducible apply qAk); exact tyOk rfl; eq_refl)) | ((with_reducible apply qA6); eq_refl; eq_refl))
      refine qAn rfl (fun _ => ?_) (fun hd => absurd (h1.symm.trans hd) (by decide))
      repeat (first | (with_reducible first | apply qAj | apply qAi | apply qAh | apply qAf | apply qAu | apply qAS | apply qAz) | ((with_reducible apply rp); first | ((with_reducible apply qAa); (conv => lhs; whnf)) | ((with_reducible apply qAV); exact tyOk rfl; eq_refl; eq_refl)) | ((with_reducible apply rpN); ((with_reducible apply qAb); exact tyOk rfl; (iterate 5 eq_refl))))
      (with_reducible apply qAA); (focus (repeat' (first | (with_reducible apply qAv) | (with_reducible apply qAq) | ((with_reducible apply qAD); eq_refl) | ((with_reducible apply qAy); eq_refl; eq_refl; exact tyOk rfl; eq_refl; eq_refl)))); eq_refl; refine SubD.of_eq ?_
      rfl
    · rw [if_neg h0]
      exact reckon_n op hop v w hf (by simpa using h0)
  · rw [if_neg hf]
    have a1 := asked_k 2 v w
    rw [show fitK ((2 : Nat) : Int) v w = false from eq_false_of_ne_true hf] at a1
    clear hf hop
    obtain ⟨k, n, b, t⟩ := v
    obtain ⟨k2, n2, b2, t2⟩ := w
    unfold Vl.cs at *
    dsimp only at *
    refine qAs Tryd.func140 rfl (by kernel_rfl) mixed (by kernel_rfl) (qle (by kernel_rfl)) Tryd.results140 ?_
    repeat (first | (with_reducible first | apply qAj | apply qAi | apply qAh | apply qAf | apply qAu | apply qAS | apply qAz) | ((with_reducible apply rp); first | ((with_reducible apply qAg); eq_refl; eq_refl; exact (a1); eq_refl) | ((with_reducible apply qAa); (conv => lhs; whnf)) | ((with_reducible apply qAl); exact tyOk rfl; (iterate 3 eq_refl); exact qle rfl; eq_refl) | ((with_reducible apply qAZ); eq_refl) | ((with_reducible apply qAV); exact tyOk rfl; eq_refl; eq_refl)) | ((with_reducible apply rp1); first | ((with_reducible apply qAp); eq_refl; eq_refl) | ((with_reducible apply qAk); exact tyOk rfl; eq_refl)) | ((with_reducible apply rpN); ((with_reducible apply qAb); exact tyOk rfl; (iterate 5 eq_refl))) | ((with_reducible apply qBq); eq_refl; eq_refl))
    (with_reducible apply qAA); (focus (repeat' (first | (with_reducible apply qAv) | (with_reducible apply qAq) | ((with_reducible apply qAD); eq_refl) | ((with_reducible apply qAy); eq_refl; eq_refl; exact tyOk rfl; eq_refl; eq_refl)))); eq_refl; refine SubD.of_eq ?_
    rfl
def cmpG (op : Nat) (tl te tm : Int) : Int := if op = 9 then te else if op = 10 then 2 - te else if op = 11 then tl else if op = 14 then 2 - tl else if op = 13 then tm else 2 - tm
set_option maxHeartbeats 4000000 in
theorem qFU (op : Nat) (hop : op = 9 ∨ op = 10 ∨ op = 11 ∨ op = 12 ∨ op = 13 ∨ op = 14) (v w : Vl) (tl te tm : Int) (e : Nat) (h1 : tl = 0 ∨ tl = 1 ∨ tl = 2) (h2 : te = 0 ∨ te = 1 ∨ te = 2) (h3 : tm = 0 ∨ tm = 1 ∨ tm = 2)
    (c1 : PC Tryd.prog 146 [.ag v.cs, .ag w.cs] (.tu [iD tl, iD e])) (c2 : PC Tryd.prog 147 [.ag v.cs, .ag w.cs] (.tu [iD te, iD e])) (c3 : PC Tryd.prog 146 [.ag w.cs, .ag v.cs] (.tu [iD tm, iD e])) :
    PC Tryd.prog 141 [iD op, .ag v.cs, .ag w.cs] (tvD (if e = 0 then ⟨truI (cmpG op tl te tm), 0⟩ else .bad e)) := by
  have n1 := not_pc tl (by omega)
  have n2 := not_pc te (by omega)
  have n3 := not_pc tm (by omega)
  have t1 := fun x (hx : x = 0 ∨ x = 1 ∨ x = 2) => qDo x hx
  obtain ⟨k, n, b, t⟩ := v
  obtain ⟨k2, m, b2, t2⟩ := w
  unfold Vl.cs at c1 c2 c3 ⊢
  dsimp only at *
  by_cases he : e = 0
  · subst he
    rw [if_pos rfl]
    rcases hop with rfl | rfl | rfl | rfl | rfl | rfl
    · replace t1 := t1 (te) h2
      show PC _ _ _ (.tu [.ag (truI (te)).cs, iD 0])
      generalize truI (te) = q at *
      obtain ⟨qk, qn, qb, qt⟩ := q
      unfold Vl.cs at *
      dsimp only at *
      refine qAs Tryd.func141 rfl (by kernel_rfl) mixed (by kernel_rfl) (qle (by kernel_rfl)) Tryd.results141 ?_
      repeat (first | (with_reducible first | apply qAj | apply qAi | apply qAh | apply qAf | apply qAo | apply qAF | apply qAu | apply qAz | apply qAm) | ((first | (with_reducible apply rp) | ((with_reducible apply rpG); eq_refl; exact qAP rfl; (focus repeat' (first | exact trivial | exact id | apply And.intro)); intro zg; have zh := zg; (try simp only [zs1, zs2, zs3, zs4] at zg))); first | ((with_reducible apply qAg); eq_refl; eq_refl; (first | exact (c1) | exact (c2) | exact (t1)); eq_refl) | ((with_reducible first | apply qAd | apply qAa); (conv => lhs; whnf)) | ((with_reducible first | apply qAJ | apply qAl | apply qAr | apply qAU | apply qAt) <;> first | ((with_reducible apply tyOk); eq_refl) | eq_refl | exact qle rfl | exact id)) | ((with_reducible apply rp1); first | ((with_reducible apply qAp); eq_refl; eq_refl) | ((with_reducible apply qAk); exact tyOk rfl; eq_refl)) | ((with_reducible apply rpN); ((with_reducible apply qAb); exact tyOk rfl; (iterate 5 eq_refl))) | ((with_reducible apply qA6); eq_refl; eq_refl) | ((with_reducible apply qBq); eq_refl; eq_refl))
      (with_reducible apply qAA); (focus (repeat' (first | (with_reducible apply qAv) | (with_reducible apply qAq) | ((with_reducible apply qAD); eq_refl) | ((with_reducible apply qAy); eq_refl; eq_refl; exact tyOk rfl; eq_refl; eq_refl)))); eq_refl; refine SubD.of_eq ?_
      rfl
    · replace t1 := t1 (2 - te) (by omega)
      show PC _ _ _ (.tu [.ag (truI (2 - te)).cs, iD 0])
      generalize truI (2 - te) = q at *
      obtain ⟨qk, qn, qb, qt⟩ := q
      unfold Vl.cs at *
      dsimp only at *
      refine qAs Tryd.func141 rfl (by kernel_rfl) mixed (by kernel_rfl) (qle (by kernel_rfl)) Tryd.results141 ?_
      repeat (first | (with_reducible first | apply qAj | apply qAi | apply qAh | apply qAf | apply qAo | apply qAF | apply qAu | apply qAz | apply qAm) | ((first | (with_reducible apply rp) | ((with_reducible apply rpG); eq_refl; exact qAP rfl; (focus repeat' (first | exact trivial | exact id | apply And.intro)); intro zg; have zh := zg; (try simp only [zs1, zs2, zs3, zs4] at zg))); first | ((with_reducible apply qAg); eq_refl; eq_refl; (first | exact (c1) | exact (c2) | exact (n2) | exact (t1)); eq_refl) | ((with_reducible first | apply qAd | apply qAa); (conv => lhs; whnf)) | ((with_reducible first | apply qAJ | apply qAl | apply qAr | apply qAU | apply qAt) <;> first | ((with_reducible apply tyOk); eq_refl) | eq_refl | exact qle rfl | exact id)) | ((with_reducible apply rp1); first | ((with_reducible apply qAp); eq_refl; eq_refl) | ((with_reducible apply qAk); exact tyOk rfl; eq_refl)) | ((with_reducible apply rpN); ((with_reducible apply qAb); exact tyOk rfl; (iterate 5 eq_refl))) | ((with_reducible apply qA6); eq_refl; eq_refl) | ((with_reducible apply qBq); eq_refl; eq_refl))
      (with_reducible apply qAA); (focus (repeat' (first | (with_reducible apply qAv) | (with_reducible apply qAq) | ((with_reducible apply qAD); eq_refl) | ((with_reducible apply qAy); eq_refl; eq_refl; exact tyOk rfl; eq_refl; eq_refl)))); eq_refl; refine SubD.of_eq ?_
      rfl
    · replace t1 := t1 (tl) h1
      show PC _ _ _ (.tu [.ag (truI (tl)).cs, iD 0])
      generalize truI (tl) = q at *
      obtain ⟨qk, qn, qb, qt⟩ := q
      unfold Vl.cs at *
      dsimp only at *
      refine qAs Tryd.func141 rfl (by kernel_rfl) mixed (by kernel_rfl) (qle (by kernel_rfl)) Tryd.results141 ?_
      repeat (first | (with_reducible first | apply qAj | apply qAi | apply qAh | apply qAf | apply qAo | apply qAF | apply qAu | apply qAz | apply qAm) | ((first | (with_reducible apply rp) | ((with_reducible apply rpG); eq_refl; exact qAP rfl; (focus repeat' (first | exact trivial | exact id | apply And.intro)); intro zg; have zh := zg; (try simp only [zs1, zs2, zs3, zs4] at zg))); first | ((with_reducible apply qAg); eq_refl; eq_refl; (first | exact (c1) | exact (t1)); eq_refl) | ((with_reducible first | apply qAd | apply qAa); (conv => lhs; whnf)) | ((with_reducible first | apply qAJ | apply qAl | apply qAr | apply qAU | apply qAt) <;> first | ((with_reducible apply tyOk); eq_refl) | eq_refl | exact qle rfl | exact id)) | ((with_reducible apply rp1); first | ((with_reducible apply qAp); eq_refl; eq_refl) | ((with_reducible apply qAk); exact tyOk rfl; eq_refl)) | ((with_reducible apply rpN); ((with_reducible apply qAb); exact tyOk rfl; (iterate 5 eq_refl))) | ((with_reducible apply qA6); eq_refl; eq_refl))
      (with_reducible apply qAA); (focus (repeat' (first | (with_reducible apply qAv) | (with_reducible apply qAq) | ((with_reducible apply qAD); eq_refl) | ((with_reducible apply qAy); eq_refl; eq_refl; exact tyOk rfl; eq_refl; eq_refl)))); eq_refl; refine SubD.of_eq ?_
      rfl
    · replace t1 := t1 (2 - tm) (by omega)
      show PC _ _ _ (.tu [.ag (truI (2 - tm)).cs, iD 0])
      generalize truI (2 - tm) = q at *
      obtain ⟨qk, qn, qb, qt⟩ := q
      unfold Vl.cs at *
      dsimp only at *
      refine qAs Tryd.func141 rfl (by kernel_rfl) mixed (by kernel_rfl) (qle (by kernel_rfl)) Tryd.results141 ?_
      repeat (first | (with_reducible first | apply qAj | apply qAi | apply qAh | apply qAf | apply qAo | apply qAF | apply qAu | apply qAz | apply qAm) | ((first | (with_reducible apply rp) | ((with_reducible apply rpG); eq_refl; exact qAP rfl; (focus repeat' (first | exact trivial | exact id | apply And.intro)); intro zg; have zh := zg; (try simp only [zs1, zs2, zs3, zs4] at zg))); first | ((with_reducible apply qAg); eq_refl; eq_refl; (first | exact (c1) | exact (c3) | exact (n3) | exact (t1)); eq_refl) | ((with_reducible first | apply qAd | apply qAa); (conv => lhs; whnf)) | ((with_reducible first | apply qAJ | apply qAl | apply qAr | apply qAU | apply qAt) <;> first | ((with_reducible apply tyOk); eq_refl) | eq_refl | exact qle rfl | exact id)) | ((with_reducible apply rp1); first | ((with_reducible apply qAp); eq_refl; eq_refl) | ((with_reducible apply qAk); exact tyOk rfl; eq_refl)) | ((with_reducible apply rpN); ((with_reducible apply qAb); exact tyOk rfl; (iterate 5 eq_refl))) | ((with_reducible apply qA6); eq_refl; eq_refl) | ((with_reducible apply qBq); eq_refl; eq_refl))
      (with_reducible apply qAA); (focus (repeat' (first | (with_reducible apply qAv) | (with_reducible apply qAq) | ((with_reducible apply qAD); eq_refl) | ((with_reducible apply qAy); eq_refl; eq_refl; exact tyOk rfl; eq_refl; eq_refl)))); eq_refl; refine SubD.of_eq ?_
      rfl
    · replace t1 := t1 (tm) h3
      show PC _ _ _ (.tu [.ag (truI (tm)).cs, iD 0])
      generalize truI (tm) = q at *
      obtain ⟨qk, qn, qb, qt⟩ := q
      unfold Vl.cs at *
      dsimp only at *
      refine qAs Tryd.func141 rfl (by kernel_rfl) mixed (by kernel_rfl) (qle (by kernel_rfl)) Tryd.results141 ?_
      repeat (first | (with_reducible first | apply qAj | apply qAi | apply qAh | apply qAf | apply qAo | apply qAF | apply qAu | apply qAz | apply qAm) | ((first | (with_reducible apply rp) | ((with_reducible apply rpG); eq_refl; exact qAP rfl; (focus repeat' (first | exact trivial | exact id | apply And.intro)); intro zg; have zh := zg; (try simp only [zs1, zs2, zs3, zs4] at zg))); first | ((with_reducible apply qAg); eq_refl; eq_refl; (first | exact (c1) | exact (c3) | exact (t1)); eq_refl) | ((with_reducible first | apply qAd | apply qAa); (conv => lhs; whnf)) | ((with_reducible first | apply qAJ | apply qAl | apply qAr | apply qAU | apply qAt) <;> first | ((with_reducible apply tyOk); eq_refl) | eq_refl | exact qle rfl | exact id)) | ((with_reducible apply rp1); first | ((with_reducible apply qAp); eq_refl; eq_refl) | ((with_reducible apply qAk); exact tyOk rfl; eq_refl)) | ((with_reducible apply rpN); ((with_reducible apply qAb); exact tyOk rfl; (iterate 5 eq_refl))) | ((with_reducible apply qA6); eq_refl; eq_refl) | ((with_reducible apply qBq); eq_refl; eq_refl))
      (with_reducible apply qAA); (focus (repeat' (first | (with_reducible apply qAv) | (with_reducible apply qAq) | ((with_reducible apply qAD); eq_refl) | ((with_reducible apply qAy); eq_refl; eq_refl; exact tyOk rfl; eq_refl; eq_refl)))); eq_refl; refine SubD.of_eq ?_
      rfl
    · replace t1 := t1 (2 - tl) (by omega)
      show PC _ _ _ (.tu [.ag (truI (2 - tl)).cs, iD 0])
      generalize truI (2 - tl) = q at *
      obtain ⟨qk, qn, qb, qt⟩ := q
      unfold Vl.cs at *
      dsimp only at *
      refine qAs Tryd.func141 rfl (by kernel_rfl) mixed (by kernel_rfl) (qle (by kernel_rfl)) Tryd.results141 ?_
      repeat (first | (with_reducible first | apply qAj | apply qAi | apply qAh | apply qAf | apply qAo | apply qAF | apply qAu | apply qAz | apply qAm) | ((first | (with_reducible apply rp) | ((with_reducible apply rpG); eq_refl; exact qAP rfl; (focus repeat' (first | exact trivial | exact id | apply And.intro)); intro zg; have zh := zg; (try simp only [zs1, zs2, zs3, zs4] at zg))); first | ((with_reducible apply qAg); eq_refl; eq_refl; (first | exact (c1) | exact (n1) | exact (t1)); eq_refl) | ((with_reducible first | apply qAd | apply qAa); (conv => lhs; whnf)) | ((with_reducible first | apply qAJ | apply qAl | apply qAr | apply qAU | apply qAt) <;> first | ((with_reducible apply tyOk); eq_refl) | eq_refl | exact qle rfl | exact id)) | ((with_reducible apply rp1); first | ((with_reducible apply qAp); eq_refl; eq_refl) | ((with_reducible apply qAk); exact tyOk rfl; eq_refl)) | ((with_reducible apply rpN); ((with_reducible apply qAb); exact tyOk rfl; (iterate 5 eq_refl))) | ((with_reducible apply qA6); eq_refl; eq_refl) | ((with_reducible apply qBq); eq_refl; eq_refl))
      (with_reducible apply qAA); (focus (repeat' (first | (with_reducible apply qAv) | (with_reducible apply qAq) | ((with_reducible apply qAD); eq_refl) | ((with_reducible apply qAy); eq_refl; eq_refl; exact tyOk rfl; eq_refl; eq_refl)))); eq_refl; refine SubD.of_eq ?_
      rfl
  · rw [if_neg he]
    clear t1
    rcases hop with rfl | rfl | rfl | rfl | rfl | rfl
    · refine qAs Tryd.func141 rfl (by kernel_rfl) mixed (by kernel_rfl) (qle (by kernel_rfl)) Tryd.results141 ?_
      repeat (first | (with_reducible first | apply qAj | apply qAi | apply qAh | apply qAf | apply qAo | apply qAF | apply qAu | apply qAS | apply qAz | apply qAm) | ((with_reducible apply rp); first | ((with_reducible apply qAg); eq_refl; eq_refl; exact (c1); eq_refl) | ((with_reducible apply qAg); eq_refl; eq_refl; exact (c2); eq_refl) | ((with_reducible apply qAd); (conv => lhs; whnf)) | ((with_reducible apply qAa); (conv => lhs; whnf)) | ((with_reducible apply qAl); exact tyOk rfl; (iterate 3 eq_refl); exact qle rfl; eq_refl) | ((with_reducible apply qAr); eq_refl; eq_refl) | ((with_reducible apply qAU); eq_refl; eq_refl) | ((with_reducible apply qAt); eq_refl; eq_refl) | ((with_reducible apply qAV); exact tyOk rfl; eq_refl; eq_refl)) | ((with_reducible apply rp1); first | ((with_reducible apply qAp); eq_refl; eq_refl) | ((with_reducible apply qAk); exact tyOk rfl; eq_refl)) | ((with_reducible apply rpN); ((with_reducible apply qAb); exact tyOk rfl; (iterate 5 eq_refl))) | ((with_reducible apply qAn); eq_refl; rotate_left; (focus (intro hd; (first | (cases hd; done) | (exfalso; simp at hd; omega)))); (intro hd; clear hd)))
      (with_reducible apply qAA); (focus (repeat' (first | (with_reducible apply qAv) | (with_reducible apply qAq) | ((with_reducible apply qAD); eq_refl) | ((with_reducible apply qAy); eq_refl; eq_refl; exact tyOk rfl; eq_refl; eq_refl)))); eq_refl; refine SubD.of_eq ?_
      rfl
    · refine qAs Tryd.func141 rfl (by kernel_rfl) mixed (by kernel_rfl) (qle (by kernel_rfl)) Tryd.results141 ?_
      repeat (first | (with_reducible first | apply qAj | apply qAi | apply qAh | apply qAf | apply qAo | apply qAF | apply qAu | apply qAS | apply qAz) | ((with_reducible apply rp); first | ((with_reducible apply qAg); eq_refl; eq_refl; exact (c1); eq_refl) | ((with_reducible apply qAg); eq_refl; eq_refl; exact (c2); eq_refl) | ((with_reducible apply qAd); (conv => lhs; whnf)) | ((with_reducible apply qAa); (conv => lhs; whnf)) | ((with_reducible apply qAl); exact tyOk rfl; (iterate 3 eq_refl); exact qle rfl; eq_refl) | ((with_reducible apply qAr); eq_refl; eq_refl) | ((with_reducible apply qAU); eq_refl; eq_refl) | ((with_reducible apply qAt); eq_refl; eq_refl) | ((with_reducible apply qAV); exact tyOk rfl; eq_refl; eq_refl)) | ((with_reducible apply rp1); first | ((with_reducible apply qAp); eq_refl; eq_refl) | ((with_reducible apply qAk); exact tyOk rfl; eq_refl)) | ((with_reducible apply rpN); ((with_reducible apply qAb); exact tyOk rfl; (iterate 5 eq_refl))) | ((with_reducible apply qAn); eq_refl; (focus (intro hd; (first | (cases hd; done) | (exfalso; simp at hd; omega)))); (intro hd; clear hd)) | ((with_reducible apply qAn); eq_refl; rotate_left; (focus (intro hd; (first | (cases hd; done) | (exfalso; simp at hd; omega)))); (intro hd; clear hd)))
      (with_reducible apply qAA); (focus (repeat' (first | (with_reducible apply qAv) | (with_reducible apply qAq) | ((with_reducible apply qAD); eq_refl) | ((with_reducible apply qAy); eq_refl; eq_refl; exact tyOk rfl; eq_refl; eq_refl)))); eq_refl; refine SubD.of_eq ?_
      rfl
    · refine qAs Tryd.func141 rfl (by kernel_rfl) mixed (by kernel_rfl) (qle (by kernel_rfl)) Tryd.results141 ?_
      repeat (first | (with_reducible first | apply qAj | apply qAi | apply qAh | apply qAf | apply qAo | apply qAF | apply qAu | apply qAS | apply qAz | apply qAm) | ((with_reducible apply rp); first | ((with_reducible apply qAg); eq_refl; eq_refl; exact (c1); eq_refl) | ((with_reducible apply qAd); (conv => lhs; whnf)) | ((with_reducible apply qAa); (conv => lhs; whnf)) | ((with_reducible apply qAl); exact tyOk rfl; (iterate 3 eq_refl); exact qle rfl; eq_refl) | ((with_reducible apply qAr); eq_refl; eq_refl) | ((with_reducible apply qAU); eq_refl; eq_refl) | ((with_reducible apply qAt); eq_refl; eq_refl) | ((with_reducible apply qAV); exact tyOk rfl; eq_refl; eq_refl)) | ((with_reducible apply rp1); first | ((with_reducible apply qAp); eq_refl; eq_refl) | ((with_reducible apply qAk); exact tyOk rfl; eq_refl)) | ((with_reducible apply rpN); ((with_reducible apply qAb); exact tyOk rfl; (iterate 5 eq_refl))) | ((with_reducible apply qAn); eq_refl; (focus (intro hd; (first | (cases hd; done) | (exfalso; simp at hd; omega)))); (intro hd; clear hd)) | ((with_reducible apply qAn); eq_refl; rotate_left; (focus (intro hd; (first | (cases hd; done) | (exfalso; simp at hd; omega)))); (intro hd; clear hd)))
      (with_reducible apply qAA); (focus (repeat' (first | (with_reducible apply qAv) | (with_reducible apply qAq) | ((with_reducible apply qAD); eq_refl) | ((with_reducible apply qAy); eq_refl; eq_refl; exact tyOk rfl; eq_refl; eq_refl)))); eq_refl; refine SubD.of_eq ?_
      rfl
    · refine qAs Tryd.func141 rfl (by kernel_rfl) mixed (by kernel_rfl) (qle (by kernel_rfl)) Tryd.results141 ?_
      repeat (first | (with_reducible first | apply qAj | apply qAi | apply qAh | apply qAf | apply qAo | apply qAF | apply qAu | apply qAS | apply qAz) | ((with_reducible apply rp); first | ((with_reducible apply qAg); eq_refl; eq_refl; exact (c1); eq_refl) | ((with_reducible apply qAg); eq_refl; eq_refl; exact (c3); eq_refl) | ((with_reducible apply qAd); (conv => lhs; whnf)) | ((with_reducible apply qAa); (conv => lhs; whnf)) | ((with_reducible apply qAl); exact tyOk rfl; (iterate 3 eq_refl); exact qle rfl; eq_refl) | ((with_reducible apply qAr); eq_refl; eq_refl) | ((with_reducible apply qAU); eq_refl; eq_refl) | ((with_reducible apply qAt); eq_refl; eq_refl) | ((with_reducible apply qAV); exact tyOk rfl; eq_refl; eq_refl)) | ((with_reducible apply rp1); first | ((with_reducible apply qAp); eq_refl; eq_refl) | ((with_reducible apply qAk); exact tyOk rfl; eq_refl)) | ((with_reducible apply rpN); ((with_reducible apply qAb); exact tyOk rfl; (iterate 5 eq_refl))) | ((with_reducible apply qAn); eq_refl; (focus (intro hd; (first | (cases hd; done) | (exfalso; simp at hd; omega)))); (intro hd; clear hd)) | ((with_reducible apply qAn); eq_refl; rotate_left; (focus (intro hd; (first | (cases hd; done) | (exfalso; simp at hd; omega)))); (intro hd; clear hd)))
      (with_reducible apply qAA); (focus (repeat' (first | (with_reducible apply qAv) | (with_reducible apply qAq) | ((with_reducible apply qAD); eq_refl) | ((with_reducible apply qAy); eq_refl; eq_refl; exact tyOk rfl; eq_refl; eq_refl)))); eq_refl; refine SubD.of_eq ?_
      rfl
    · refine qAs Tryd.func141 rfl (by kernel_rfl) mixed (by kernel_rfl) (qle (by kernel_rfl)) Tryd.results141 ?_
      repeat (first | (with_reducible first | apply qAj | apply qAi | apply qAh | apply qAf | apply qAo | apply qAF | apply qAu | apply qAS | apply qAz | apply qAm) | ((with_reducible apply rp); first | ((with_reducible apply qAg); eq_refl; eq_refl; exact (c1); eq_refl) | ((with_reducible apply qAg); eq_refl; eq_refl; exact (c3); eq_refl) | ((with_reducible apply qAd); (conv => lhs; whnf)) | ((with_reducible apply qAa); (conv => lhs; whnf)) | ((with_reducible apply qAl); exact tyOk rfl; (iterate 3 eq_refl); exact qle rfl; eq_refl) | ((with_reducible apply qAr); eq_refl; eq_refl) | ((with_reducible apply qAU); eq_refl; eq_refl) | ((with_reducible apply qAt); eq_refl; eq_refl) | ((with_reducible apply qAV); exact tyOk rfl; eq_refl; eq_refl)) | ((with_reducible apply rp1); first | ((with_reducible apply qAp); eq_refl; eq_refl) | ((with_reducible apply qAk); exact tyOk rfl; eq_refl)) | ((with_reducible apply rpN); ((with_reducible apply qAb); exact tyOk rfl; (iterate 5 eq_refl))) | ((with_reducible apply qAn); eq_refl; (focus (intro hd; (first | (cases hd; done) | (exfalso; simp at hd; omega)))); (intro hd; clear hd)) | ((with_reducible apply qAn); eq_refl; rotate_left; (focus (intro hd; (first | (cases hd; done) | (exfalso; simp at hd; omega)))); (intro hd; clear hd)))
      (with_reducible apply qAA); (focus (repeat' (first | (with_reducible apply qAv) | (with_reducible apply qAq) | ((with_reducible apply qAD); eq_refl) | ((with_reducible apply qAy); eq_refl; eq_refl; exact tyOk rfl; eq_refl; eq_refl)))); eq_refl; refine SubD.of_eq ?_
      rfl
    · refine qAs Tryd.func141 rfl (by kernel_rfl) mixed (by kernel_rfl) (qle (by kernel_rfl)) Tryd.results141 ?_
      repeat (first | (with_reducible first | apply qAj | apply qAi | apply qAh | apply qAf | apply qAo | apply qAF | apply qAu | apply qAS | apply qAz | apply qAm) | ((with_reducible apply rp); first | ((with_reducible apply qAg); eq_refl; eq_refl; exact (c1); eq_refl) | ((with_reducible apply qAd); (conv => lhs; whnf)) | ((with_reducible apply qAa); (conv => lhs; whnf)) | ((with_reducible apply qAl); exact tyOk rfl; (iterate 3 eq_refl); exact qle rfl; eq_refl) | ((with_reducible apply qAr); eq_refl; eq_refl) | ((with_reducible apply qAU); eq_refl; eq_refl) | ((with_reducible apply qAt); eq_refl; eq_refl) | ((with_reducible apply qAV); exact tyOk rfl; eq_refl; eq_refl)) | ((with_reducible apply rp1); first | ((with_reducible apply qAp); eq_refl; eq_refl) | ((with_reducible apply qAk); exact tyOk rfl; eq_refl)) | ((with_reducible apply rpN); ((with_reducible apply qAb); exact tyOk rfl; (iterate 5 eq_refl))) | ((with_reducible apply qAn); eq_refl; (focus (intro hd; (first | (cases hd; done) | (exfalso; simp at hd; omega)))); (intro hd; clear hd)) | ((with_reducible apply qAn); eq_refl; rotate_left; (focus (intro hd; (first | (cases hd; done) | (exfalso; simp at hd; omega)))); (intro hd; clear hd)))
      (with_reducible apply qAA); (focus (repeat' (first | (with_reducible apply qAv) | (with_reducible apply qAq) | ((with_reducible apply qAD); eq_refl) | ((with_reducible apply qAy); eq_refl; eq_refl; exact tyOk rfl; eq_refl; eq_refl)))); eq_refl; refine SubD.of_eq ?_
      rfl
theorem compare_pc (op : Nat) (hop : op = 9 ∨ op = 10 ∨ op = 11 ∨ op = 12 ∨ op = 13 ∨ op = 14) {v w : Vl} (hv : Gd v) (hw : Gd w) : PC Tryd.prog 141 [iD op, .ag v.cs, .ag w.cs] (tvD (compF op v w)) := by
  have c1 := less_pc hv hw
  have c2 := equal_pc hv hw
  have c3 := less_pc hw hv
  have y1 := qEN (decide (ordV v w < 0))
  have y2 := qEN (ordV v w == 0)
  have y3 := qEN (decide (ordV w v < 0))
  unfold compF cmpT
  unfold askT askE at *
  by_cases h0 : v.k = 0 ∨ w.k = 0
  · have h0' : w.k = 0 ∨ v.k = 0 := h0.symm
    rw [if_pos h0, if_pos h0] at c1 c2
    rw [if_pos h0', if_pos h0'] at c3
    rw [if_pos h0]
    have := qFU op hop v w 1 1 1 0 (.inr (.inl rfl)) (.inr (.inl rfl)) (.inr (.inl rfl)) c1 c2 c3
    rw [if_pos rfl] at this
    rw [show truI (cmpG op 1 1 1) = nullV from by rcases hop with rfl | rfl | rfl | rfl | rfl | rfl <;> rfl] at this
    exact this
  · have h0' : ¬ (w.k = 0 ∨ v.k = 0) := fun h => h0 h.symm
    rw [if_neg h0, if_neg h0] at c1 c2
    rw [if_neg h0', if_neg h0'] at c3
    rw [if_neg h0]
    by_cases hk : v.k = w.k
    · rw [if_pos hk, if_pos hk] at c1 c2
      rw [if_pos hk.symm, if_pos hk.symm] at c3
      rw [if_pos hk]
      have := qFU op hop v w _ _ _ 0 (by omega) (by omega) (by omega) c1 c2 c3
      rw [if_pos rfl] at this
      exact this
    · rw [if_neg hk, if_neg hk] at c1 c2
      rw [if_neg (Ne.symm hk), if_neg (Ne.symm hk)] at c3
      rw [if_neg hk]
      have := qFU op hop v w _ _ _ 2 (.inl rfl) (.inl rfl) (.inl rfl) c1 c2 c3
      rw [if_neg (by decide)] at this
      exact this
set_option maxHeartbeats 4000000 in
theorem two_pc (op : Nat) (hop : bi2 op) {v w : Vl} (hv : Gd v) (hw : Gd w) : PC Tryd.prog 137 [iD op, .ag v.cs, .ag w.cs] (tvD (twoF op v w)) := by
  unfold bi2 at hop
  unfold twoF
  by_cases hl : op = 15 ∨ op = 16
  · rw [if_pos hl]
    have c1 := logic_pc op hl hv hw
    generalize logF op v w = r at *
    clear hv hw hop
    obtain ⟨k, n, b, t⟩ := v
    obtain ⟨k2, m, b2, t2⟩ := w
    obtain ⟨⟨rk, rn, rb, rt⟩, re⟩ := r
    unfold tvD Vl.cs at *
    dsimp only at *
    rcases hl with rfl | rfl
    · refine qAs Tryd.func137 rfl (by kernel_rfl) mixed (by kernel_rfl) (qle (by kernel_rfl)) Tryd.results137 ?_
      repeat (first | (with_reducible first | apply qAj | apply qAi | apply qAh | apply qAf | apply qAo | apply qAu | apply qAS | apply qBc | apply qAz | apply qAm) | ((with_reducible apply rp); first | ((with_reducible apply qAg); eq_refl; eq_refl; exact (c1); eq_refl) | ((with_reducible apply qAd); (conv => lhs; whnf)) | ((with_reducible apply qAa); (conv => lhs; whnf)) | ((with_reducible apply qAl); exact tyOk rfl; (iterate 3 eq_refl); exact qle rfl; eq_refl) | ((with_reducible apply qAr); eq_refl; eq_refl) | ((with_reducible apply qAt); eq_refl; eq_refl)) | ((with_reducible apply rp1); first | ((with_reducible apply qAp); eq_refl; eq_refl) | ((with_reducible apply qAk); exact tyOk rfl; eq_refl)) | ((with_reducible apply rpN); ((with_reducible apply qAb); exact tyOk rfl; (iterate 5 eq_refl))) | ((with_reducible apply qBq); eq_refl; eq_refl))
      (with_reducible apply qAA); (focus (repeat' (first | (with_reducible apply qAv) | (with_reducible apply qAq) | ((with_reducible apply qAD); eq_refl) | ((with_reducible apply qAy); eq_refl; eq_refl; exact tyOk rfl; eq_refl; eq_refl)))); eq_refl; refine SubD.of_eq ?_
      rfl
    · refine qAs Tryd.func137 rfl (by kernel_rfl) mixed (by kernel_rfl) (qle (by kernel_rfl)) Tryd.results137 ?_
      repeat (first | (with_reducible first | apply qAj | apply qAi | apply qAh | apply qAf | apply qAo | apply qAu | apply qAS | apply qBc | apply qAz) | ((with_reducible apply rp); first | ((with_reducible apply qAg); eq_refl; eq_refl; exact (c1); eq_refl) | ((with_reducible apply qAd); (conv => lhs; whnf)) | ((with_reducible apply qAa); (conv => lhs; whnf)) | ((with_reducible apply qAl); exact tyOk rfl; (iterate 3 eq_refl); exact qle rfl; eq_refl) | ((with_reducible apply qAr); eq_refl; eq_refl) | ((with_reducible apply qAt); eq_refl; eq_refl)) | ((with_reducible apply rp1); first | ((with_reducible apply qAp); eq_refl; eq_refl) | ((with_reducible apply qAk); exact tyOk rfl; eq_refl)) | ((with_reducible apply rpN); ((with_reducible apply qAb); exact tyOk rfl; (iterate 5 eq_refl))) | ((with_reducible apply qA6); eq_refl; eq_refl) | ((with_reducible apply qBq); eq_refl; eq_refl))
      (with_reducible apply qAA); (focus (repeat' (first | (with_reducible apply qAv) | (with_reducible apply qAq) | ((with_reducible apply qAD); eq_refl) | ((with_reducible apply qAy); eq_refl; eq_refl; exact tyOk rfl; eq_refl; eq_refl)))); eq_refl; refine SubD.of_eq ?_
      rfl
  rw [if_neg hl]
  by_cases h20 : op = 20
  · rw [if_pos h20]
    subst h20
    clear hv hw hop hl
    obtain ⟨k, n, b, t⟩ := v
    obtain ⟨k2, m, b2, t2⟩ := w
    unfold tvD Vl.cs at *
    dsimp only at *
    refine qAs Tryd.func137 rfl (by kernel_rfl) mixed (by kernel_rfl) (qle (by kernel_rfl)) Tryd.results137 ?_
    repeat (first | (with_reducible first | apply qAj | apply qAi | apply qAh | apply qAf | apply qAo | apply qAu | apply qAS | apply qBc | apply qAz) | ((with_reducible apply rp); first | ((with_reducible apply qAd); (conv => lhs; whnf)) | ((with_reducible apply qAa); (conv => lhs; whnf)) | ((with_reducible apply qAl); exact tyOk rfl; (iterate 3 eq_refl); exact qle rfl; eq_refl) | ((with_reducible apply qAr); eq_refl; eq_refl)) | ((with_reducible apply rp1); first | ((with_reducible apply qAp); eq_refl; eq_refl) | ((with_reducible apply qAk); exact tyOk rfl; eq_refl)) | ((with_reducible apply rpN); ((with_reducible apply qAb); exact tyOk rfl; (iterate 5 eq_refl))) | ((with_reducible apply qA6); eq_refl; eq_refl) | ((with_reducible apply qBq); eq_refl; eq_refl))
    (with_reducible apply qAA); (focus (repeat' (first | (with_reducible apply qAv) | (with_reducible apply qAq) | ((with_reducible apply qAD); eq_refl) | ((with_reducible apply qAy); eq_refl; eq_refl; exact tyOk rfl; eq_refl; eq_refl)))); eq_refl; refine SubD.of_eq ?_
    rfl
  rw [if_neg h20]
  by_cases h19 : op = 19
  · rw [if_pos h19]
    subst h19
    have c1 := join_pc hv hw
    generalize catF v w = r at *
    clear hv hw hop hl h20
    obtain ⟨k, n, b, t⟩ := v
    obtain ⟨k2, m, b2, t2⟩ := w
    obtain ⟨⟨rk, rn, rb, rt⟩, re⟩ := r
    unfold tvD Vl.cs at *
    dsimp only at *
    refine qAs Tryd.func137 rfl (by kernel_rfl) mixed (by kernel_rfl) (qle (by kernel_rfl)) Tryd.results137 ?_
    repeat (first | (with_reducible first | apply qAj | apply qAi | apply qAh | apply qAf | apply qAo | apply qAu | apply qAS | apply qBc | apply qAz) | ((with_reducible apply rp); first | ((with_reducible apply qAg); eq_refl; eq_refl; exact (c1); eq_refl) | ((with_reducible apply qAd); (conv => lhs; whnf)) | ((with_reducible apply qAa); (conv => lhs; whnf)) | ((with_reducible apply qAl); exact tyOk rfl; (iterate 3 eq_refl); exact qle rfl; eq_refl) | ((with_reducible apply qAr); eq_refl; eq_refl) | ((with_reducible apply qAt); eq_refl; eq_refl)) | ((with_reducible apply rp1); first | ((with_reducible apply qAp); eq_refl; eq_refl) | ((with_reducible apply qAk); exact tyOk rfl; eq_refl)) | ((with_reducible apply rpN); ((with_reducible apply qAb); exact tyOk rfl; (iterate 5 eq_refl))) | ((with_reducible apply qA6); eq_refl; eq_refl) | ((with_reducible apply qBq); eq_refl; eq_refl))
    (with_reducible apply qAA); (focus (repeat' (first | (with_reducible apply qAv) | (with_reducible apply qAq) | ((with_reducible apply qAD); eq_refl) | ((with_reducible apply qAy); eq_refl; eq_refl; exact tyOk rfl; eq_refl; eq_refl)))); eq_refl; refine SubD.of_eq ?_
    rfl
  rw [if_neg h19]
  by_cases h8 : op ≤ 8
  · rw [if_pos h8]
    have h5 : op = 5 ∨ op = 6 ∨ op = 7 ∨ op = 8 := by omega
    have c1 := reckon_pc op h5 v w
    generalize reckF op v w = r at *
    clear hv hw hop hl h20 h19 h8
    obtain ⟨k, n, b, t⟩ := v
    obtain ⟨k2, m, b2, t2⟩ := w
    obtain ⟨⟨rk, rn, rb, rt⟩, re⟩ := r
    unfold tvD Vl.cs at *
    dsimp only at *
    rcases h5 with rfl | rfl | rfl | rfl
    · refine qAs Tryd.func137 rfl (by kernel_rfl) mixed (by kernel_rfl) (qle (by kernel_rfl)) Tryd.results137 ?_
      repeat (first | (with_reducible first | apply qAj | apply qAi | apply qAh | apply qAf | apply qAo | apply qAu | apply qAS | apply qBc | apply qAz | apply qAm) | ((with_reducible apply rp); first | ((with_reducible apply qAg); eq_refl; eq_refl; exact (c1); eq_refl) | ((with_reducible apply qAd); (conv => lhs; whnf)) | ((with_reducible apply qAa); (conv => lhs; whnf)) | ((with_reducible apply qAl); exact tyOk rfl; (iterate 3 eq_refl); exact qle rfl; eq_refl) | ((with_reducible apply qAr); eq_refl; eq_refl) | ((with_reducible apply qAt); eq_refl; eq_refl)) | ((with_reducible apply rp1); first | ((with_reducible apply qAp); eq_refl; eq_refl) | ((with_reducible apply qAk); exact tyOk rfl; eq_refl)) | ((with_reducible apply rpN); ((with_reducible apply qAb); exact tyOk rfl; (iterate 5 eq_refl))) | ((with_reducible apply qA6); eq_refl; eq_refl) | ((with_reducible apply qBq); eq_refl; eq_refl))
      (with_reducible apply qAA); (focus (repeat' (first | (with_reducible apply qAv) | (with_reducible apply qAq) | ((with_reducible apply qAD); eq_refl) | ((with_reducible apply qAy); eq_refl; eq_refl; exact tyOk rfl; eq_refl; eq_refl)))); eq_refl; refine SubD.of_eq ?_
      rfl
    · refine qAs Tryd.func137 rfl (by kernel_rfl) mixed (by kernel_rfl) (qle (by kernel_rfl)) Tryd.results137 ?_
      repeat (first | (with_reducible first | apply qAj | apply qAi | apply qAh | apply qAf | apply qAo | apply qAu | apply qAS | apply qBc | apply qAz | apply qAm) | ((with_reducible apply rp); first | ((with_reducible apply qAg); eq_refl; eq_refl; exact (c1); eq_refl) | ((with_reducible apply qAd); (conv => lhs; whnf)) | ((with_reducible apply qAa); (conv => lhs; whnf)) | ((with_reducible apply qAl); exact tyOk rfl; (iterate 3 eq_refl); exact qle rfl; eq_refl) | ((with_reducible apply qAr); eq_refl; eq_refl) | ((with_reducible apply qAt); eq_refl; eq_refl)) | ((with_reducible apply rp1); first | ((with_reducible apply qAp); eq_refl; eq_refl) | ((with_reducible apply qAk); exact tyOk rfl; eq_refl)) | ((with_reducible apply rpN); ((with_reducible apply qAb); exact tyOk rfl; (iterate 5 eq_refl))) | ((with_reducible apply qA6); eq_refl; eq_refl) | ((with_reducible apply qBq); eq_refl; eq_refl))
      (with_reducible apply qAA); (focus (repeat' (first | (with_reducible apply qAv) | (with_reducible apply qAq) | ((with_reducible apply qAD); eq_refl) | ((with_reducible apply qAy); eq_refl; eq_refl; exact tyOk rfl; eq_refl; eq_refl)))); eq_refl; refine SubD.of_eq ?_
      rfl
    · refine qAs Tryd.func137 rfl (by kernel_rfl) mixed (by kernel_rfl) (qle (by kernel_rfl)) Tryd.results137 ?_
      repeat (first | (with_reducible first | apply qAj | apply qAi | apply qAh | apply qAf | apply qAo | apply qAu | apply qAS | apply qBc | apply qAz | apply qAm) | ((with_reducible apply rp); first | ((with_reducible apply qAg); eq_refl; eq_refl; exact (c1); eq_refl) | ((with_reducible apply qAd); (conv => lhs; whnf)) | ((with_reducible apply qAa); (conv => lhs; whnf)) | ((with_reducible apply qAl); exact tyOk rfl; (iterate 3 eq_refl); exact qle rfl; eq_refl) | ((with_reducible apply qAr); eq_refl; eq_refl) | ((with_reducible apply qAt); eq_refl; eq_refl)) | ((with_reducible apply rp1); first | ((with_reducible apply qAp); eq_refl; eq_refl) | ((with_reducible apply qAk); exact tyOk rfl; eq_refl)) | ((with_reducible apply rpN); ((with_reducible apply qAb); exact tyOk rfl; (iterate 5 eq_refl))) | ((with_reducible apply qA6); eq_refl; eq_refl) | ((with_reducible apply qBq); eq_refl; eq_refl))
      (with_reducible apply qAA); (focus (repeat' (first | (with_reducible apply qAv) | (with_reducible apply qAq) | ((with_reducible apply qAD); eq_refl) | ((with_reducible apply qAy); eq_refl; eq_refl; exact tyOk rfl; eq_refl; eq_refl)))); eq_refl; refine SubD.of_eq ?_
      rfl
    · refine qAs Tryd.func137 rfl (by kernel_rfl) mixed (by kernel_rfl) (qle (by kernel_rfl)) Tryd.results137 ?_
      repeat (first | (with_reducible first | apply qAj | apply qAi | apply qAh | apply qAf | apply qAo | apply qAu | apply qAS | apply qBc | apply qAz) | ((with_reducible apply rp); first | ((with_reducible apply qAg); eq_refl; eq_refl; exact (c1); eq_refl) | ((with_reducible apply qAd); (conv => lhs; whnf)) | ((with_reducible apply qAa); (conv => lhs; whnf)) | ((with_reducible apply qAl); exact tyOk rfl; (iterate 3 eq_refl); exact qle rfl; eq_refl) | ((with_reducible apply qAr); eq_refl; eq_refl) | ((with_reducible apply qAt); eq_refl; eq_refl)) | ((with_reducible apply rp1); first | ((with_reducible apply qAp); eq_refl; eq_refl) | ((with_reducible apply qAk); exact tyOk rfl; eq_refl)) | ((with_reducible apply rpN); ((with_reducible apply qAb); exact tyOk rfl; (iterate 5 eq_refl))) | ((with_reducible apply qA6); eq_refl; eq_refl) | ((with_reducible apply qBq); eq_refl; eq_refl))
      (with_reducible apply qAA); (focus (repeat' (first | (with_reducible apply qAv) | (with_reducible apply qAq) | ((with_reducible apply qAD); eq_refl) | ((with_reducible apply qAy); eq_refl; eq_refl; exact tyOk rfl; eq_refl; eq_refl)))); eq_refl; refine SubD.of_eq ?_
      rfl
  rw [if_neg h8]
  have h9 : op = 9 ∨ op = 10 ∨ op = 11 ∨ op = 12 ∨ op = 13 ∨ op = 14 := by omega
  have c1 := compare_pc op h9 hv hw
  generalize compF op v w = r at *
  clear hv hw hop hl h20 h19
  obtain ⟨k, n, b, t⟩ := v
  obtain ⟨k2, m, b2, t2⟩ := w
  obtain ⟨⟨rk, rn, rb, rt⟩, re⟩ := r
  unfold tvD Vl.cs at *
  dsimp only at *
  have h9' : 9 ≤ op ∧ op ≤ 14 := by omega
  clear h9 h8
  refine qAs Tryd.func137 rfl (by kernel_rfl) mixed (by kernel_rfl) (qle (by kernel_rfl)) Tryd.results137 ?_
  repeat (first | (with_reducible first | apply qAj | apply qAi | apply qAh | apply qAf | apply qAo | apply qAF | apply qAu | apply qAz | apply qAm) | ((with_reducible apply rp); first | ((with_reducible apply qAg); eq_refl; eq_refl; exact (c1); eq_refl) | ((with_reducible apply qAd); (conv => lhs; whnf)) | ((with_reducible apply qAa); (conv => lhs; whnf)) | ((with_reducible apply qAl); exact tyOk rfl; (iterate 3 eq_refl); exact qle rfl; eq_refl) | ((with_reducible apply qAr); eq_refl; eq_refl) | ((with_reducible apply qAt); eq_refl; eq_refl)) | ((with_reducible apply rp1); first | ((with_reducible apply qAp); eq_refl; eq_refl) | ((with_reducible apply qAk); exact tyOk rfl; eq_refl)) | ((with_reducible apply rpN); ((with_reducible apply qAb); exact tyOk rfl; (iterate 5 eq_refl))) | ((with_reducible apply qAn); eq_refl; (focus (intro hd; (exfalso; simp at hd; omega))); (intro hd; clear hd)))
  (with_reducible apply qAA); (focus (repeat' (first | (with_reducible apply qAv) | (with_reducible apply qAq) | ((with_reducible apply qAD); eq_refl) | ((with_reducible apply qAy); eq_refl; eq_refl; exact tyOk rfl; eq_refl; eq_refl)))); eq_refl; refine SubD.of_eq ?_
  rfl
end Go.Proofs.YtpaccaojgbfjdaaDoor

