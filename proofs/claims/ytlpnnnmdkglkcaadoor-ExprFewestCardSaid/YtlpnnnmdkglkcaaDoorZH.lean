/-
  chirographkeep's heap of raw things: expr, heapOf as contracts. No condition but the sizes.
-/
import Derived.Test.YtlpnnnmdkglkcaaDoorZI
set_option linter.unusedSimpArgs false
set_option linter.unusedVariables false
namespace Go.Proofs.YtlpnnnmdkglkcaaDoor
open Go.RowKit

def qBV (l : List Raw) (cols : List Cl) (d K n : Nat) : Prop := ∃ (x : Ex) (n' : Nat), Gx cols K d x ∧ n ≤ n' ∧ n' + 1 ≤ n + 2 ^ d ∧ PX Tryd.prog 41 [.px 1000 0, .d (iD K), .d (iD d)] [hpB l n cols] [] (.ag x.cs) [hpB l n' cols] []
set_option maxHeartbeats 1000000 in
theorem expr_leaf1 (l : List Raw) (cols : List Cl) (hcl : cols.length ≤ 1000) (K : Nat) (hK : K ≤ 4) (n : Nat) (hn : n ≤ 1000000) : qBV l cols 1 K n := by
  have n1 := qBR l n cols (by omega)
  obtain ⟨v, h1, h2, h3, l1⟩ := leaf_px l (n + 1) cols hcl K hK (qBf l n)
  refine ⟨_, n + 1, leafF_gx (qBf l n) h1 h2 h3, by omega, by omega, ?_⟩
  unfold hpB at *
  generalize qBf l n = r at *
  have p5 := qAO r.kind 5 (by omega) (by omega)
  generalize leafF cols K r v = x at *
  have hxl := x.cs_eq
  generalize x.cs = c at *
  subst hxl
  obtain ⟨rk, ra, rb, rt⟩ := r
  unfold Raw.cs at *
  dsimp only at *
  refine qAW Tryd.func41 rfl (by kernel_rfl) mixed (by kernel_rfl) (qle (by kernel_rfl)) Tryd.results41 rfl ?_
  repeat (first | (with_reducible first | apply qAr | apply qAq | apply qAp | apply qAj | apply qAK | apply qBg | apply qBi) | ((first | (with_reducible apply rp) | ((with_reducible apply rpG); eq_refl; exact qAu rfl; (focus repeat' (first | exact trivial | exact id | apply And.intro)); intro zg; have zh := zg; (try simp only [zs1, zs2, zs3, zs4] at zg))); first | ((with_reducible apply qAc); eq_refl; eq_refl; exact (p5); eq_refl) | ((with_reducible apply qAe); (conv => lhs; whnf)) | ((with_reducible first | apply qAU | apply qAg | apply qAi | apply qAC | apply qBx) <;> first | ((with_reducible apply tyOk); eq_refl) | eq_refl | exact id | decide) | ((with_reducible apply qAn); exact tyOk rfl; (iterate 3 eq_refl); exact qle rfl; eq_refl)) | ((with_reducible apply rp1); ((with_reducible apply qAh); exact tyOk rfl; eq_refl)) | ((with_reducible apply rpN); ((with_reducible apply qAf); exact tyOk rfl; (iterate 5 eq_refl))) | ((with_reducible apply rpL); (refine qAa [] [] (ups := [(1000, .var 83 [.d (qBo l), .d (iD ((n + 1 : Nat))), .d (qBr cols)])]) rfl (n1) rfl (kpX rfl) rfl (insX rfl) (insQ rfl) rfl rfl rfl rfl rfl (insX rfl) rfl rfl); exact qAb _) | ((with_reducible apply rpL); (refine qAa [] [] (ups := [(1000, .var 83 [.d (qBo l), .d (iD ((n + 1 : Nat))), .d (qBr cols)])]) rfl (l1) rfl (kpX rfl) rfl (insX rfl) (insQ rfl) rfl rfl rfl rfl rfl (insX rfl) rfl rfl); exact qAb _) | ((with_reducible apply qBK); eq_refl; eq_refl))
  (with_reducible apply qA1 (l := [])); (focus (repeat' (first | (with_reducible apply qAJ) | (with_reducible apply qAD) | ((with_reducible apply qAZ); eq_refl; eq_refl; exact tyOk rfl; eq_refl; eq_refl)))); eq_refl; exact SubD.refl _; refine ⟨(by repeat' (first | exact qAX | (refine qAN rfl (by exact SubA.refl _) ?_))), (by repeat' (first | exact trivial | eq_refl | apply And.intro)), rfl, insS rfl, (by repeat' (first | exact trivial | exact qA5 rfl | apply And.intro))⟩
set_option maxHeartbeats 1000000 in
theorem expr_leaf (l : List Raw) (cols : List Cl) (hcl : cols.length ≤ 1000) (d K : Nat) (hd : d ≤ 10) (hK : K ≤ 4) (n : Nat) (hn : n ≤ 1000000) (h5 : (qBf l n).kind % 5 = 0) : qBV l cols (d + 2) K n := by
  have n1 := qBR l n cols (by omega)
  obtain ⟨v, h1, h2, h3, l1⟩ := leaf_px l (n + 1) cols hcl K hK (qBf l n)
  refine ⟨_, n + 1, leafF_gx (qBf l n) h1 h2 h3, by omega, by have := Nat.one_lt_two_pow (n := d + 2) (by omega); omega, ?_⟩
  unfold hpB at *
  generalize qBf l n = r at *
  have p5 := qAO r.kind 5 (by omega) (by omega)
  rw [show r.kind % ((5 : Nat) : Int) = 0 from h5] at p5
  clear h5
  generalize leafF cols K r v = x at *
  have hxl := x.cs_eq
  generalize x.cs = c at *
  subst hxl
  obtain ⟨rk, ra, rb, rt⟩ := r
  unfold Raw.cs at *
  dsimp only at *
  refine qAW Tryd.func41 rfl (by kernel_rfl) mixed (by kernel_rfl) (qle (by kernel_rfl)) Tryd.results41 rfl ?_
  repeat (first | (with_reducible first | apply qAr | apply qAq | apply qAp | apply qAj | apply qAK | apply qBg | apply qBi) | ((first | (with_reducible apply rp) | ((with_reducible apply rpG); eq_refl; exact qAu rfl; (focus repeat' (first | exact trivial | exact id | apply And.intro)); intro zg; have zh := zg; (try simp only [zs1, zs2, zs3, zs4] at zg))); first | ((with_reducible apply qAc); eq_refl; eq_refl; exact (p5); eq_refl) | ((with_reducible apply qAe); (conv => lhs; whnf)) | ((with_reducible first | apply qAU | apply qAg | apply qAi | apply qAC | apply qBx) <;> first | ((with_reducible apply tyOk); eq_refl) | eq_refl | exact id | decide) | ((with_reducible apply qAn); exact tyOk rfl; (iterate 3 eq_refl); exact qle rfl; eq_refl)) | ((with_reducible apply rp1); ((with_reducible apply qAh); exact tyOk rfl; eq_refl)) | ((with_reducible apply rpN); ((with_reducible apply qAf); exact tyOk rfl; (iterate 5 eq_refl))) | ((with_reducible apply rpL); (refine qAa [] [] (ups := [(1000, .var 83 [.d (qBo l), .d (iD ((n + 1 : Nat))), .d (qBr cols)])]) rfl (n1) rfl (kpX rfl) rfl (insX rfl) (insQ rfl) rfl rfl rfl rfl rfl (insX rfl) rfl rfl); exact qAb _) | ((with_reducible apply rpL); (refine qAa [] [] (ups := [(1000, .var 83 [.d (qBo l), .d (iD ((n + 1 : Nat))), .d (qBr cols)])]) rfl (l1) rfl (kpX rfl) rfl (insX rfl) (insQ rfl) rfl rfl rfl rfl rfl (insX rfl) rfl rfl); exact qAb _) | ((with_reducible apply qBK); eq_refl; eq_refl))
  (with_reducible apply qA1 (l := [])); (focus (repeat' (first | (with_reducible apply qAJ) | (with_reducible apply qAD) | ((with_reducible apply qAZ); eq_refl; eq_refl; exact tyOk rfl; eq_refl; eq_refl)))); eq_refl; exact SubD.refl _; refine ⟨(by repeat' (first | exact qAX | (refine qAN rfl (by exact SubA.refl _) ?_))), (by repeat' (first | exact trivial | eq_refl | apply And.intro)), rfl, insS rfl, (by repeat' (first | exact trivial | exact qA5 rfl | apply And.intro))⟩
end Go.Proofs.YtlpnnnmdkglkcaaDoor


/-
  chirographkeep's heap of raw things: expr, an operation of parts. No condition but the sizes.
-/
namespace Go.Proofs.YtlpnnnmdkglkcaaDoor
open Go.RowKit

set_option maxHeartbeats 2000000 in
theorem expr_1_0 (l : List Raw) (cols : List Cl) (d n : Nat) (hd : d ≤ 10) (hn : n ≤ 1000000) (h5 : ¬ (qBf l n).kind % 5 = 0) (h7 : (qBf l n).b % 7 = 0)
    (ih : ∀ K n, 1 ≤ K → K ≤ 4 → n + 2 ^ (d + 1) ≤ 1000000 → qBV l cols (d + 1) K n) (hb : n + 2 ^ (d + 2) ≤ 1000000) : qBV l cols (d + 2) 1 n := by
  have n1 := qBR l n cols (by omega)
  have e2 : 2 ^ (d + 2) = 2 ^ (d + 1) + 2 ^ (d + 1) := by rw [Nat.pow_succ]; omega
  obtain ⟨x1, n2, g1, h1, h2, i1⟩ := ih (1) (n + 1) (by omega) (by omega) (by have := Nat.one_le_two_pow (n := d + 1); omega)
  refine ⟨.un (4) x1, n2, .not g1, by omega, by omega, ?_⟩
  have o1 := op1_pc (4) x1
  unfold hpB at *
  clear ih e2 g1
  generalize qBf l n = r at *
  have p5 := qAO r.kind 5 (by omega) (by omega)
  have p7 := qAO r.b 7 (by omega) (by omega)
  rw [show r.b % ((7 : Nat) : Int) = 0 from h7] at p7
  generalize x1.cs = c1 at *
  have p4 := qAO r.a 4 (by omega) (by omega)
  obtain ⟨rk, ra, rb, rt⟩ := r
  unfold Raw.cs at *
  dsimp only at *
  refine qAW Tryd.func41 rfl (by kernel_rfl) mixed (by kernel_rfl) (qle (by kernel_rfl)) Tryd.results41 rfl ?_
  repeat (first | (with_reducible first | apply qAr | apply qAq | apply qAp | apply qAj | apply qAA | apply qAK | apply qBg | apply qBw | apply qBi | apply qAF) | ((first | (with_reducible apply rp) | ((with_reducible apply rpG); eq_refl; exact qAu rfl; (focus repeat' (first | exact trivial | exact id | apply And.intro)); intro zg; have zh := zg; (try simp only [zs1, zs2, zs3, zs4] at zg))); first | ((with_reducible apply qAc); eq_refl; eq_refl; (first | exact (p5) | exact (p7) | exact (p4)); eq_refl) | (exact qBk (z := ((d + 1 : Nat) : Int)) rfl rfl (by omega) (by omega) (by omega)) | ((with_reducible apply qAH); (iterate 3 eq_refl); exact (o1)) | ((with_reducible first | apply qAe | apply qAd); (conv => lhs; whnf)) | ((with_reducible first | apply qAU | apply qAg | apply qAi | apply qAC | apply qBx) <;> first | ((with_reducible apply tyOk); eq_refl) | eq_refl | exact id | decide) | ((with_reducible apply qAV); eq_refl; eq_refl; omega; omega)) | ((with_reducible apply rp1); ((with_reducible apply qAh); exact tyOk rfl; eq_refl)) | ((with_reducible apply rpN); ((with_reducible apply qAf); exact tyOk rfl; (iterate 5 eq_refl))) | ((with_reducible apply rpL); (refine qAa [] [] (ups := [(1000, .var 83 [.d (qBo l), .d (iD ((n + 1 : Nat))), .d (qBr cols)])]) rfl (n1) rfl (kpX rfl) rfl (insX rfl) (insQ rfl) rfl rfl rfl rfl rfl (insX rfl) rfl rfl); exact qAb _) | ((with_reducible apply rpL); (refine qAa [] [] (ups := [(1000, .var 83 [.d (qBo l), .d (iD ((n2 : Nat))), .d (qBr cols)])]) rfl (i1) rfl (kpX rfl) rfl (insX rfl) (insQ rfl) rfl rfl rfl rfl rfl (insX rfl) rfl rfl); exact qAb _) | ((with_reducible apply qAx); eq_refl; (focus (intro hd; (first | (cases hd; done) | (exfalso; simp at hd; omega)))); (intro hd; clear hd)) | ((with_reducible apply qAx); eq_refl; rotate_left; (focus (intro hd; (first | (cases hd; done) | (exfalso; simp at hd; omega)))); (intro hd; clear hd)))
  (with_reducible apply qA1 (l := [])); (focus (repeat' (first | (with_reducible apply qAJ) | (with_reducible apply qAD) | ((with_reducible apply qAZ); eq_refl; eq_refl; exact tyOk rfl; eq_refl; eq_refl)))); eq_refl; exact SubD.refl _; refine ⟨(by repeat' (first | exact qAX | (refine qAN rfl (by exact SubA.refl _) ?_))), (by repeat' (first | exact trivial | eq_refl | apply And.intro)), rfl, insS rfl, (by repeat' (first | exact trivial | exact qA5 rfl | apply And.intro))⟩
set_option maxHeartbeats 2000000 in
theorem expr_1_1 (l : List Raw) (cols : List Cl) (d n : Nat) (hd : d ≤ 10) (hn : n ≤ 1000000) (h5 : ¬ (qBf l n).kind % 5 = 0) (h7 : (qBf l n).b % 7 = 1)
    (ih : ∀ K n, 1 ≤ K → K ≤ 4 → n + 2 ^ (d + 1) ≤ 1000000 → qBV l cols (d + 1) K n) (hb : n + 2 ^ (d + 2) ≤ 1000000) : qBV l cols (d + 2) 1 n := by
  have n1 := qBR l n cols (by omega)
  have e2 : 2 ^ (d + 2) = 2 ^ (d + 1) + 2 ^ (d + 1) := by rw [Nat.pow_succ]; omega
  obtain ⟨x1, n2, g1, h1, h2, i1⟩ := ih (1) (n + 1) (by omega) (by omega) (by have := Nat.one_le_two_pow (n := d + 1); omega)
  obtain ⟨x2, n3, g2, h3, h4, i2⟩ := ih (1) n2 (by omega) (by omega) (by omega)
  refine ⟨.bi (15) x1 x2, n3, .log (by omega) g1 g2, by omega, by omega, ?_⟩
  have o1 := qCH (15) x1 x2
  unfold hpB at *
  clear ih e2 g1 g2
  generalize qBf l n = r at *
  have p5 := qAO r.kind 5 (by omega) (by omega)
  have p7 := qAO r.b 7 (by omega) (by omega)
  rw [show r.b % ((7 : Nat) : Int) = 1 from h7] at p7
  generalize x1.cs = c1 at *
  generalize x2.cs = c2 at *
  have p4 := qAO r.a 4 (by omega) (by omega)
  obtain ⟨rk, ra, rb, rt⟩ := r
  unfold Raw.cs at *
  dsimp only at *
  refine qAW Tryd.func41 rfl (by kernel_rfl) mixed (by kernel_rfl) (qle (by kernel_rfl)) Tryd.results41 rfl ?_
  repeat (first | (with_reducible first | apply qAr | apply qAq | apply qAp | apply qAj | apply qAA | apply qAK | apply qBg | apply qBw | apply qBi | apply qAF) | ((first | (with_reducible apply rp) | ((with_reducible apply rpG); eq_refl; exact qAu rfl; (focus repeat' (first | exact trivial | exact id | apply And.intro)); intro zg; have zh := zg; (try simp only [zs1, zs2, zs3, zs4] at zg))); first | ((with_reducible apply qAc); eq_refl; eq_refl; (first | exact (p5) | exact (p7) | exact (p4)); eq_refl) | (exact qBk (z := ((d + 1 : Nat) : Int)) rfl rfl (by omega) (by omega) (by omega)) | ((with_reducible apply qAH); (iterate 3 eq_refl); exact (o1)) | ((with_reducible first | apply qAe | apply qAd); (conv => lhs; whnf)) | ((with_reducible first | apply qAU | apply qAg | apply qAi | apply qAC | apply qBx) <;> first | ((with_reducible apply tyOk); eq_refl) | eq_refl | exact id | decide) | ((with_reducible apply qAV); eq_refl; eq_refl; omega; omega) | ((with_reducible apply qC2); eq_refl; eq_refl; omega; omega)) | ((with_reducible apply rp1); ((with_reducible apply qAh); exact tyOk rfl; eq_refl)) | ((with_reducible apply rpN); ((with_reducible apply qAf); exact tyOk rfl; (iterate 5 eq_refl))) | ((with_reducible apply rpL); (refine qAa [] [] (ups := [(1000, .var 83 [.d (qBo l), .d (iD ((n + 1 : Nat))), .d (qBr cols)])]) rfl (n1) rfl (kpX rfl) rfl (insX rfl) (insQ rfl) rfl rfl rfl rfl rfl (insX rfl) rfl rfl); exact qAb _) | ((with_reducible apply rpL); (refine qAa [] [] (ups := [(1000, .var 83 [.d (qBo l), .d (iD ((n2 : Nat))), .d (qBr cols)])]) rfl (i1) rfl (kpX rfl) rfl (insX rfl) (insQ rfl) rfl rfl rfl rfl rfl (insX rfl) rfl rfl); exact qAb _) | ((with_reducible apply rpL); (refine qAa [] [] (ups := [(1000, .var 83 [.d (qBo l), .d (iD ((n3 : Nat))), .d (qBr cols)])]) rfl (i2) rfl (kpX rfl) rfl (insX rfl) (insQ rfl) rfl rfl rfl rfl rfl (insX rfl) rfl rfl); exact qAb _) | ((with_reducible apply qAx); eq_refl; (focus (intro hd; (first | (cases hd; done) | (exfalso; simp at hd; omega)))); (intro hd; clear hd)) | ((with_reducible apply qAx); eq_refl; rotate_left; (focus (intro hd; (first | (cases hd; done) | (exfalso; simp at hd; omega)))); (intro hd; clear hd)))
  (with_reducible apply qA1 (l := [])); (focus (repeat' (first | (with_reducible apply qAJ) | (with_reducible apply qAD) | ((with_reducible apply qAZ); eq_refl; eq_refl; exact tyOk rfl; eq_refl; eq_refl)))); eq_refl; exact SubD.refl _; refine ⟨(by repeat' (first | exact qAX | (refine qAN rfl (by exact SubA.refl _) ?_))), (by repeat' (first | exact trivial | eq_refl | apply And.intro)), rfl, insS rfl, (by repeat' (first | exact trivial | exact qA5 rfl | apply And.intro))⟩
set_option maxHeartbeats 2000000 in
theorem expr_1_2 (l : List Raw) (cols : List Cl) (d n : Nat) (hd : d ≤ 10) (hn : n ≤ 1000000) (h5 : ¬ (qBf l n).kind % 5 = 0) (h7 : (qBf l n).b % 7 = 2)
    (ih : ∀ K n, 1 ≤ K → K ≤ 4 → n + 2 ^ (d + 1) ≤ 1000000 → qBV l cols (d + 1) K n) (hb : n + 2 ^ (d + 2) ≤ 1000000) : qBV l cols (d + 2) 1 n := by
  have n1 := qBR l n cols (by omega)
  have e2 : 2 ^ (d + 2) = 2 ^ (d + 1) + 2 ^ (d + 1) := by rw [Nat.pow_succ]; omega
  obtain ⟨x1, n2, g1, h1, h2, i1⟩ := ih (1) (n + 1) (by omega) (by omega) (by have := Nat.one_le_two_pow (n := d + 1); omega)
  obtain ⟨x2, n3, g2, h3, h4, i2⟩ := ih (1) n2 (by omega) (by omega) (by omega)
  refine ⟨.bi (16) x1 x2, n3, .log (by omega) g1 g2, by omega, by omega, ?_⟩
  have o1 := qCH (16) x1 x2
  unfold hpB at *
  clear ih e2 g1 g2
  generalize qBf l n = r at *
  have p5 := qAO r.kind 5 (by omega) (by omega)
  have p7 := qAO r.b 7 (by omega) (by omega)
  rw [show r.b % ((7 : Nat) : Int) = 2 from h7] at p7
  generalize x1.cs = c1 at *
  generalize x2.cs = c2 at *
  have p4 := qAO r.a 4 (by omega) (by omega)
  obtain ⟨rk, ra, rb, rt⟩ := r
  unfold Raw.cs at *
  dsimp only at *
  refine qAW Tryd.func41 rfl (by kernel_rfl) mixed (by kernel_rfl) (qle (by kernel_rfl)) Tryd.results41 rfl ?_
  repeat (first | (with_reducible first | apply qAr | apply qAq | apply qAp | apply qAj | apply qAA | apply qAK | apply qBg | apply qBw | apply qBi | apply qAF) | ((first | (with_reducible apply rp) | ((with_reducible apply rpG); eq_refl; exact qAu rfl; (focus repeat' (first | exact trivial | exact id | apply And.intro)); intro zg; have zh := zg; (try simp only [zs1, zs2, zs3, zs4] at zg))); first | ((with_reducible apply qAc); eq_refl; eq_refl; (first | exact (p5) | exact (p7) | exact (p4)); eq_refl) | (exact qBk (z := ((d + 1 : Nat) : Int)) rfl rfl (by omega) (by omega) (by omega)) | ((with_reducible apply qAH); (iterate 3 eq_refl); exact (o1)) | ((with_reducible first | apply qAe | apply qAd); (conv => lhs; whnf)) | ((with_reducible first | apply qAU | apply qAg | apply qAi | apply qAC | apply qBx) <;> first | ((with_reducible apply tyOk); eq_refl) | eq_refl | exact id | decide) | ((with_reducible apply qAV); eq_refl; eq_refl; omega; omega) | ((with_reducible apply qC2); eq_refl; eq_refl; omega; omega)) | ((with_reducible apply rp1); ((with_reducible apply qAh); exact tyOk rfl; eq_refl)) | ((with_reducible apply rpN); ((with_reducible apply qAf); exact tyOk rfl; (iterate 5 eq_refl))) | ((with_reducible apply rpL); (refine qAa [] [] (ups := [(1000, .var 83 [.d (qBo l), .d (iD ((n + 1 : Nat))), .d (qBr cols)])]) rfl (n1) rfl (kpX rfl) rfl (insX rfl) (insQ rfl) rfl rfl rfl rfl rfl (insX rfl) rfl rfl); exact qAb _) | ((with_reducible apply rpL); (refine qAa [] [] (ups := [(1000, .var 83 [.d (qBo l), .d (iD ((n2 : Nat))), .d (qBr cols)])]) rfl (i1) rfl (kpX rfl) rfl (insX rfl) (insQ rfl) rfl rfl rfl rfl rfl (insX rfl) rfl rfl); exact qAb _) | ((with_reducible apply rpL); (refine qAa [] [] (ups := [(1000, .var 83 [.d (qBo l), .d (iD ((n3 : Nat))), .d (qBr cols)])]) rfl (i2) rfl (kpX rfl) rfl (insX rfl) (insQ rfl) rfl rfl rfl rfl rfl (insX rfl) rfl rfl); exact qAb _) | ((with_reducible apply qAx); eq_refl; (focus (intro hd; (first | (cases hd; done) | (exfalso; simp at hd; omega)))); (intro hd; clear hd)) | ((with_reducible apply qAx); eq_refl; rotate_left; (focus (intro hd; (first | (cases hd; done) | (exfalso; simp at hd; omega)))); (intro hd; clear hd)))
  (with_reducible apply qA1 (l := [])); (focus (repeat' (first | (with_reducible apply qAJ) | (with_reducible apply qAD) | ((with_reducible apply qAZ); eq_refl; eq_refl; exact tyOk rfl; eq_refl; eq_refl)))); eq_refl; exact SubD.refl _; refine ⟨(by repeat' (first | exact qAX | (refine qAN rfl (by exact SubA.refl _) ?_))), (by repeat' (first | exact trivial | eq_refl | apply And.intro)), rfl, insS rfl, (by repeat' (first | exact trivial | exact qA5 rfl | apply And.intro))⟩
set_option maxHeartbeats 2000000 in
theorem expr_1_3 (l : List Raw) (cols : List Cl) (d n : Nat) (hd : d ≤ 10) (hn : n ≤ 1000000) (h5 : ¬ (qBf l n).kind % 5 = 0) (h7 : (qBf l n).b % 7 = 3)
    (ih : ∀ K n, 1 ≤ K → K ≤ 4 → n + 2 ^ (d + 1) ≤ 1000000 → qBV l cols (d + 1) K n) (hb : n + 2 ^ (d + 2) ≤ 1000000) : qBV l cols (d + 2) 1 n := by
  have n1 := qBR l n cols (by omega)
  have e2 : 2 ^ (d + 2) = 2 ^ (d + 1) + 2 ^ (d + 1) := by rw [Nat.pow_succ]; omega
  obtain ⟨u, hu⟩ : ∃ u : Nat, (qBf l n).a % ((4 : Nat) : Int) = u := ⟨((qBf l n).a % 4).toNat, by omega⟩
  have hu4 : u < 4 := by omega
  obtain ⟨x1, n2, g1, h1, h2, i1⟩ := ih (1 + u) (n + 1) (by omega) (by omega) (by have := Nat.one_le_two_pow (n := d + 1); omega)
  refine ⟨.un (17) x1, n2, .isn g1, by omega, by omega, ?_⟩
  have o1 := op1_pc (17) x1
  unfold hpB at *
  clear ih e2 g1
  generalize qBf l n = r at *
  have p5 := qAO r.kind 5 (by omega) (by omega)
  have p7 := qAO r.b 7 (by omega) (by omega)
  rw [show r.b % ((7 : Nat) : Int) = 3 from h7] at p7
  generalize x1.cs = c1 at *
  have p4 := qAO r.a 4 (by omega) (by omega)
  rw [hu] at p4
  clear hu
  obtain ⟨rk, ra, rb, rt⟩ := r
  unfold Raw.cs at *
  dsimp only at *
  refine qAW Tryd.func41 rfl (by kernel_rfl) mixed (by kernel_rfl) (qle (by kernel_rfl)) Tryd.results41 rfl ?_
  repeat (first | (with_reducible first | apply qAr | apply qAq | apply qAp | apply qAj | apply qAA | apply qAK | apply qBg | apply qBw | apply qBi | apply qAF) | ((first | (with_reducible apply rp) | ((with_reducible apply rpG); eq_refl; exact qAu rfl; (focus repeat' (first | exact trivial | exact id | apply And.intro)); intro zg; have zh := zg; (try simp only [zs1, zs2, zs3, zs4] at zg))); first | ((with_reducible apply qAc); eq_refl; eq_refl; (first | exact (p5) | exact (p7) | exact (p4)); eq_refl) | (exact qBk (z := ((d + 1 : Nat) : Int)) rfl rfl (by omega) (by omega) (by omega)) | ((with_reducible apply qAH); (iterate 3 eq_refl); exact (o1)) | (exact qBe (z := ((1 + u : Nat) : Int)) rfl rfl (by omega) (by omega) (by omega)) | ((with_reducible first | apply qAe | apply qAd); (conv => lhs; whnf)) | ((with_reducible first | apply qAU | apply qAg | apply qAi | apply qAC | apply qBx) <;> first | ((with_reducible apply tyOk); eq_refl) | eq_refl | exact id | decide)) | ((with_reducible apply rp1); ((with_reducible apply qAh); exact tyOk rfl; eq_refl)) | ((with_reducible apply rpN); ((with_reducible apply qAf); exact tyOk rfl; (iterate 5 eq_refl))) | ((with_reducible apply rpL); (refine qAa [] [] (ups := [(1000, .var 83 [.d (qBo l), .d (iD ((n + 1 : Nat))), .d (qBr cols)])]) rfl (n1) rfl (kpX rfl) rfl (insX rfl) (insQ rfl) rfl rfl rfl rfl rfl (insX rfl) rfl rfl); exact qAb _) | ((with_reducible apply rpL); (refine qAa [] [] (ups := [(1000, .var 83 [.d (qBo l), .d (iD ((n2 : Nat))), .d (qBr cols)])]) rfl (i1) rfl (kpX rfl) rfl (insX rfl) (insQ rfl) rfl rfl rfl rfl rfl (insX rfl) rfl rfl); exact qAb _) | ((with_reducible apply qAx); eq_refl; (focus (intro hd; (first | (cases hd; done) | (exfalso; simp at hd; omega)))); (intro hd; clear hd)) | ((with_reducible apply qAx); eq_refl; rotate_left; (focus (intro hd; (first | (cases hd; done) | (exfalso; simp at hd; omega)))); (intro hd; clear hd)))
  (with_reducible apply qA1 (l := [])); (focus (repeat' (first | (with_reducible apply qAJ) | (with_reducible apply qAD) | ((with_reducible apply qAZ); eq_refl; eq_refl; exact tyOk rfl; eq_refl; eq_refl)))); eq_refl; exact SubD.refl _; refine ⟨(by repeat' (first | exact qAX | (refine qAN rfl (by exact SubA.refl _) ?_))), (by repeat' (first | exact trivial | eq_refl | apply And.intro)), rfl, insS rfl, (by repeat' (first | exact trivial | exact qA5 rfl | apply And.intro))⟩
set_option maxHeartbeats 2000000 in
theorem expr_1_4 (l : List Raw) (cols : List Cl) (d n : Nat) (hd : d ≤ 10) (hn : n ≤ 1000000) (h5 : ¬ (qBf l n).kind % 5 = 0) (h7 : (qBf l n).b % 7 = 4)
    (ih : ∀ K n, 1 ≤ K → K ≤ 4 → n + 2 ^ (d + 1) ≤ 1000000 → qBV l cols (d + 1) K n) (hb : n + 2 ^ (d + 2) ≤ 1000000) : qBV l cols (d + 2) 1 n := by
  have n1 := qBR l n cols (by omega)
  have e2 : 2 ^ (d + 2) = 2 ^ (d + 1) + 2 ^ (d + 1) := by rw [Nat.pow_succ]; omega
  obtain ⟨u, hu⟩ : ∃ u : Nat, (qBf l n).a % ((4 : Nat) : Int) = u := ⟨((qBf l n).a % 4).toNat, by omega⟩
  have hu4 : u < 4 := by omega
  obtain ⟨j, hj⟩ : ∃ j : Nat, (qBf l n).a % ((6 : Nat) : Int) = j := ⟨((qBf l n).a % 6).toNat, by omega⟩
  have hj6 : j < 6 := by omega
  obtain ⟨x1, n2, g1, h1, h2, i1⟩ := ih (1 + u) (n + 1) (by omega) (by omega) (by have := Nat.one_le_two_pow (n := d + 1); omega)
  obtain ⟨x2, n3, g2, h3, h4, i2⟩ := ih (1 + u) n2 (by omega) (by omega) (by omega)
  refine ⟨.bi (9 + j) x1 x2, n3, .cmp (by omega) g1 g2, by omega, by omega, ?_⟩
  have o1 := qCH (9 + j) x1 x2
  unfold hpB at *
  clear ih e2 g1 g2
  generalize qBf l n = r at *
  have p5 := qAO r.kind 5 (by omega) (by omega)
  have p7 := qAO r.b 7 (by omega) (by omega)
  rw [show r.b % ((7 : Nat) : Int) = 4 from h7] at p7
  generalize x1.cs = c1 at *
  generalize x2.cs = c2 at *
  have p4 := qAO r.a 4 (by omega) (by omega)
  rw [hu] at p4
  have p6 := qAO r.a 6 (by omega) (by omega)
  rw [hj] at p6
  clear hu hj
  obtain ⟨rk, ra, rb, rt⟩ := r
  unfold Raw.cs at *
  dsimp only at *
  refine qAW Tryd.func41 rfl (by kernel_rfl) mixed (by kernel_rfl) (qle (by kernel_rfl)) Tryd.results41 rfl ?_
  repeat (first | (with_reducible first | apply qAr | apply qAq | apply qAp | apply qAj | apply qAA | apply qA4 | apply qAK | apply qBg | apply qBw | apply qBi | apply qAF) | ((first | (with_reducible apply rp) | ((with_reducible apply rpG); eq_refl; exact qAu rfl; (focus repeat' (first | exact trivial | exact id | apply And.intro)); intro zg; have zh := zg; (try simp only [zs1, zs2, zs3, zs4] at zg))); first | ((with_reducible apply qAc); eq_refl; eq_refl; (first | exact (p5) | exact (p7) | exact (p4) | exact (p6)); eq_refl) | (exact qBk (z := ((d + 1 : Nat) : Int)) rfl rfl (by omega) (by omega) (by omega)) | ((with_reducible apply qAH); (iterate 3 eq_refl); exact (o1)) | (exact qBe (z := ((1 + u : Nat) : Int)) rfl rfl (by omega) (by omega) (by omega)) | (exact qBe (z := ((9 + j : Nat) : Int)) rfl rfl (by omega) (by omega) (by omega)) | ((with_reducible first | apply qAe | apply qAd); (conv => lhs; whnf)) | ((with_reducible first | apply qAU | apply qAg | apply qAi | apply qAC | apply qBx) <;> first | ((with_reducible apply tyOk); eq_refl) | eq_refl | exact id | decide)) | ((with_reducible apply rp1); ((with_reducible apply qAh); exact tyOk rfl; eq_refl)) | ((with_reducible apply rpN); ((with_reducible apply qAf); exact tyOk rfl; (iterate 5 eq_refl))) | ((with_reducible apply rpL); (refine qAa [] [] (ups := [(1000, .var 83 [.d (qBo l), .d (iD ((n + 1 : Nat))), .d (qBr cols)])]) rfl (n1) rfl (kpX rfl) rfl (insX rfl) (insQ rfl) rfl rfl rfl rfl rfl (insX rfl) rfl rfl); exact qAb _) | ((with_reducible apply rpL); (refine qAa [] [] (ups := [(1000, .var 83 [.d (qBo l), .d (iD ((n2 : Nat))), .d (qBr cols)])]) rfl (i1) rfl (kpX rfl) rfl (insX rfl) (insQ rfl) rfl rfl rfl rfl rfl (insX rfl) rfl rfl); exact qAb _) | ((with_reducible apply rpL); (refine qAa [] [] (ups := [(1000, .var 83 [.d (qBo l), .d (iD ((n3 : Nat))), .d (qBr cols)])]) rfl (i2) rfl (kpX rfl) rfl (insX rfl) (insQ rfl) rfl rfl rfl rfl rfl (insX rfl) rfl rfl); exact qAb _) | ((with_reducible apply qAx); eq_refl; (focus (intro hd; (first | (cases hd; done) | (exfalso; simp at hd; omega)))); (intro hd; clear hd)) | ((with_reducible apply qAx); eq_refl; rotate_left; (focus (intro hd; (first | (cases hd; done) | (exfalso; simp at hd; omega)))); (intro hd; clear hd)))
  (with_reducible apply qA1 (l := [])); (focus (repeat' (first | (with_reducible apply qAJ) | (with_reducible apply qAD) | ((with_reducible apply qAZ); eq_refl; eq_refl; exact tyOk rfl; eq_refl; eq_refl)))); eq_refl; exact SubD.refl _; refine ⟨(by repeat' (first | exact qAX | (refine qAN rfl (by exact SubA.refl _) ?_))), (by repeat' (first | exact trivial | eq_refl | apply And.intro)), rfl, insS rfl, (by repeat' (first | exact trivial | exact qA5 rfl | apply And.intro))⟩
set_option maxHeartbeats 2000000 in
theorem expr_1_5 (l : List Raw) (cols : List Cl) (d n : Nat) (hd : d ≤ 10) (hn : n ≤ 1000000) (h5 : ¬ (qBf l n).kind % 5 = 0) (h7 : (qBf l n).b % 7 = 5)
    (ih : ∀ K n, 1 ≤ K → K ≤ 4 → n + 2 ^ (d + 1) ≤ 1000000 → qBV l cols (d + 1) K n) (hb : n + 2 ^ (d + 2) ≤ 1000000) : qBV l cols (d + 2) 1 n := by
  have n1 := qBR l n cols (by omega)
  have e2 : 2 ^ (d + 2) = 2 ^ (d + 1) + 2 ^ (d + 1) := by rw [Nat.pow_succ]; omega
  obtain ⟨u, hu⟩ : ∃ u : Nat, (qBf l n).a % ((4 : Nat) : Int) = u := ⟨((qBf l n).a % 4).toNat, by omega⟩
  have hu4 : u < 4 := by omega
  obtain ⟨j, hj⟩ : ∃ j : Nat, (qBf l n).a % ((6 : Nat) : Int) = j := ⟨((qBf l n).a % 6).toNat, by omega⟩
  have hj6 : j < 6 := by omega
  obtain ⟨x1, n2, g1, h1, h2, i1⟩ := ih (1 + u) (n + 1) (by omega) (by omega) (by have := Nat.one_le_two_pow (n := d + 1); omega)
  obtain ⟨x2, n3, g2, h3, h4, i2⟩ := ih (1 + u) n2 (by omega) (by omega) (by omega)
  refine ⟨.bi (9 + j) x1 x2, n3, .cmp (by omega) g1 g2, by omega, by omega, ?_⟩
  have o1 := qCH (9 + j) x1 x2
  unfold hpB at *
  clear ih e2 g1 g2
  generalize qBf l n = r at *
  have p5 := qAO r.kind 5 (by omega) (by omega)
  have p7 := qAO r.b 7 (by omega) (by omega)
  rw [show r.b % ((7 : Nat) : Int) = 5 from h7] at p7
  generalize x1.cs = c1 at *
  generalize x2.cs = c2 at *
  have p4 := qAO r.a 4 (by omega) (by omega)
  rw [hu] at p4
  have p6 := qAO r.a 6 (by omega) (by omega)
  rw [hj] at p6
  clear hu hj
  obtain ⟨rk, ra, rb, rt⟩ := r
  unfold Raw.cs at *
  dsimp only at *
  refine qAW Tryd.func41 rfl (by kernel_rfl) mixed (by kernel_rfl) (qle (by kernel_rfl)) Tryd.results41 rfl ?_
  repeat (first | (with_reducible first | apply qAr | apply qAq | apply qAp | apply qAj | apply qAA | apply qA4 | apply qAK | apply qBg | apply qBw | apply qBi | apply qAF) | ((first | (with_reducible apply rp) | ((with_reducible apply rpG); eq_refl; exact qAu rfl; (focus repeat' (first | exact trivial | exact id | apply And.intro)); intro zg; have zh := zg; (try simp only [zs1, zs2, zs3, zs4] at zg))); first | ((with_reducible apply qAc); eq_refl; eq_refl; (first | exact (p5) | exact (p7) | exact (p4) | exact (p6)); eq_refl) | (exact qBk (z := ((d + 1 : Nat) : Int)) rfl rfl (by omega) (by omega) (by omega)) | ((with_reducible apply qAH); (iterate 3 eq_refl); exact (o1)) | (exact qBe (z := ((1 + u : Nat) : Int)) rfl rfl (by omega) (by omega) (by omega)) | (exact qBe (z := ((9 + j : Nat) : Int)) rfl rfl (by omega) (by omega) (by omega)) | ((with_reducible first | apply qAe | apply qAd); (conv => lhs; whnf)) | ((with_reducible first | apply qAU | apply qAg | apply qAi | apply qAC | apply qBx) <;> first | ((with_reducible apply tyOk); eq_refl) | eq_refl | exact id | decide)) | ((with_reducible apply rp1); ((with_reducible apply qAh); exact tyOk rfl; eq_refl)) | ((with_reducible apply rpN); ((with_reducible apply qAf); exact tyOk rfl; (iterate 5 eq_refl))) | ((with_reducible apply rpL); (refine qAa [] [] (ups := [(1000, .var 83 [.d (qBo l), .d (iD ((n + 1 : Nat))), .d (qBr cols)])]) rfl (n1) rfl (kpX rfl) rfl (insX rfl) (insQ rfl) rfl rfl rfl rfl rfl (insX rfl) rfl rfl); exact qAb _) | ((with_reducible apply rpL); (refine qAa [] [] (ups := [(1000, .var 83 [.d (qBo l), .d (iD ((n2 : Nat))), .d (qBr cols)])]) rfl (i1) rfl (kpX rfl) rfl (insX rfl) (insQ rfl) rfl rfl rfl rfl rfl (insX rfl) rfl rfl); exact qAb _) | ((with_reducible apply rpL); (refine qAa [] [] (ups := [(1000, .var 83 [.d (qBo l), .d (iD ((n3 : Nat))), .d (qBr cols)])]) rfl (i2) rfl (kpX rfl) rfl (insX rfl) (insQ rfl) rfl rfl rfl rfl rfl (insX rfl) rfl rfl); exact qAb _) | ((with_reducible apply qAx); eq_refl; (focus (intro hd; (first | (cases hd; done) | (exfalso; simp at hd; omega)))); (intro hd; clear hd)) | ((with_reducible apply qAx); eq_refl; rotate_left; (focus (intro hd; (first | (cases hd; done) | (exfalso; simp at hd; omega)))); (intro hd; clear hd)))
  (with_reducible apply qA1 (l := [])); (focus (repeat' (first | (with_reducible apply qAJ) | (with_reducible apply qAD) | ((with_reducible apply qAZ); eq_refl; eq_refl; exact tyOk rfl; eq_refl; eq_refl)))); eq_refl; exact SubD.refl _; refine ⟨(by repeat' (first | exact qAX | (refine qAN rfl (by exact SubA.refl _) ?_))), (by repeat' (first | exact trivial | eq_refl | apply And.intro)), rfl, insS rfl, (by repeat' (first | exact trivial | exact qA5 rfl | apply And.intro))⟩
set_option maxHeartbeats 2000000 in
theorem expr_1_6 (l : List Raw) (cols : List Cl) (d n : Nat) (hd : d ≤ 10) (hn : n ≤ 1000000) (h5 : ¬ (qBf l n).kind % 5 = 0) (h7 : (qBf l n).b % 7 = 6)
    (ih : ∀ K n, 1 ≤ K → K ≤ 4 → n + 2 ^ (d + 1) ≤ 1000000 → qBV l cols (d + 1) K n) (hb : n + 2 ^ (d + 2) ≤ 1000000) : qBV l cols (d + 2) 1 n := by
  have n1 := qBR l n cols (by omega)
  have e2 : 2 ^ (d + 2) = 2 ^ (d + 1) + 2 ^ (d + 1) := by rw [Nat.pow_succ]; omega
  obtain ⟨u, hu⟩ : ∃ u : Nat, (qBf l n).a % ((4 : Nat) : Int) = u := ⟨((qBf l n).a % 4).toNat, by omega⟩
  have hu4 : u < 4 := by omega
  obtain ⟨j, hj⟩ : ∃ j : Nat, (qBf l n).a % ((6 : Nat) : Int) = j := ⟨((qBf l n).a % 6).toNat, by omega⟩
  have hj6 : j < 6 := by omega
  obtain ⟨x1, n2, g1, h1, h2, i1⟩ := ih (1 + u) (n + 1) (by omega) (by omega) (by have := Nat.one_le_two_pow (n := d + 1); omega)
  obtain ⟨x2, n3, g2, h3, h4, i2⟩ := ih (1 + u) n2 (by omega) (by omega) (by omega)
  refine ⟨.bi (9 + j) x1 x2, n3, .cmp (by omega) g1 g2, by omega, by omega, ?_⟩
  have o1 := qCH (9 + j) x1 x2
  unfold hpB at *
  clear ih e2 g1 g2
  generalize qBf l n = r at *
  have p5 := qAO r.kind 5 (by omega) (by omega)
  have p7 := qAO r.b 7 (by omega) (by omega)
  rw [show r.b % ((7 : Nat) : Int) = 6 from h7] at p7
  generalize x1.cs = c1 at *
  generalize x2.cs = c2 at *
  have p4 := qAO r.a 4 (by omega) (by omega)
  rw [hu] at p4
  have p6 := qAO r.a 6 (by omega) (by omega)
  rw [hj] at p6
  clear hu hj
  obtain ⟨rk, ra, rb, rt⟩ := r
  unfold Raw.cs at *
  dsimp only at *
  refine qAW Tryd.func41 rfl (by kernel_rfl) mixed (by kernel_rfl) (qle (by kernel_rfl)) Tryd.results41 rfl ?_
  repeat (first | (with_reducible first | apply qAr | apply qAq | apply qAp | apply qAj | apply qAA | apply qA4 | apply qAK | apply qBg | apply qBw | apply qBi | apply qAF) | ((first | (with_reducible apply rp) | ((with_reducible apply rpG); eq_refl; exact qAu rfl; (focus repeat' (first | exact trivial | exact id | apply And.intro)); intro zg; have zh := zg; (try simp only [zs1, zs2, zs3, zs4] at zg))); first | ((with_reducible apply qAc); eq_refl; eq_refl; (first | exact (p5) | exact (p7) | exact (p4) | exact (p6)); eq_refl) | (exact qBk (z := ((d + 1 : Nat) : Int)) rfl rfl (by omega) (by omega) (by omega)) | ((with_reducible apply qAH); (iterate 3 eq_refl); exact (o1)) | (exact qBe (z := ((1 + u : Nat) : Int)) rfl rfl (by omega) (by omega) (by omega)) | (exact qBe (z := ((9 + j : Nat) : Int)) rfl rfl (by omega) (by omega) (by omega)) | ((with_reducible first | apply qAe | apply qAd); (conv => lhs; whnf)) | ((with_reducible first | apply qAU | apply qAg | apply qAi | apply qAC | apply qBx) <;> first | ((with_reducible apply tyOk); eq_refl) | eq_refl | exact id | decide)) | ((with_reducible apply rp1); ((with_reducible apply qAh); exact tyOk rfl; eq_refl)) | ((with_reducible apply rpN); ((with_reducible apply qAf); exact tyOk rfl; (iterate 5 eq_refl))) | ((with_reducible apply rpL); (refine qAa [] [] (ups := [(1000, .var 83 [.d (qBo l), .d (iD ((n + 1 : Nat))), .d (qBr cols)])]) rfl (n1) rfl (kpX rfl) rfl (insX rfl) (insQ rfl) rfl rfl rfl rfl rfl (insX rfl) rfl rfl); exact qAb _) | ((with_reducible apply rpL); (refine qAa [] [] (ups := [(1000, .var 83 [.d (qBo l), .d (iD ((n2 : Nat))), .d (qBr cols)])]) rfl (i1) rfl (kpX rfl) rfl (insX rfl) (insQ rfl) rfl rfl rfl rfl rfl (insX rfl) rfl rfl); exact qAb _) | ((with_reducible apply rpL); (refine qAa [] [] (ups := [(1000, .var 83 [.d (qBo l), .d (iD ((n3 : Nat))), .d (qBr cols)])]) rfl (i2) rfl (kpX rfl) rfl (insX rfl) (insQ rfl) rfl rfl rfl rfl rfl (insX rfl) rfl rfl); exact qAb _) | ((with_reducible apply qAx); eq_refl; (focus (intro hd; (first | (cases hd; done) | (exfalso; simp at hd; omega)))); (intro hd; clear hd)) | ((with_reducible apply qAx); eq_refl; rotate_left; (focus (intro hd; (first | (cases hd; done) | (exfalso; simp at hd; omega)))); (intro hd; clear hd)))
  (with_reducible apply qA1 (l := [])); (focus (repeat' (first | (with_reducible apply qAJ) | (with_reducible apply qAD) | ((with_reducible apply qAZ); eq_refl; eq_refl; exact tyOk rfl; eq_refl; eq_refl)))); eq_refl; exact SubD.refl _; refine ⟨(by repeat' (first | exact qAX | (refine qAN rfl (by exact SubA.refl _) ?_))), (by repeat' (first | exact trivial | eq_refl | apply And.intro)), rfl, insS rfl, (by repeat' (first | exact trivial | exact qA5 rfl | apply And.intro))⟩
end Go.Proofs.YtlpnnnmdkglkcaaDoor


/-
  chirographkeep's heap of raw things: expr, an operation of parts. No condition but the sizes.
-/
namespace Go.Proofs.YtlpnnnmdkglkcaaDoor
open Go.RowKit

set_option maxHeartbeats 2000000 in
theorem expr_2_4 (l : List Raw) (cols : List Cl) (d n : Nat) (hd : d ≤ 10) (hn : n ≤ 1000000) (h5 : ¬ (qBf l n).kind % 5 = 0) (h7 : (qBf l n).b % 7 = 4)
    (ih : ∀ K n, 1 ≤ K → K ≤ 4 → n + 2 ^ (d + 1) ≤ 1000000 → qBV l cols (d + 1) K n) (hb : n + 2 ^ (d + 2) ≤ 1000000) : qBV l cols (d + 2) 2 n := by
  have n1 := qBR l n cols (by omega)
  have e2 : 2 ^ (d + 2) = 2 ^ (d + 1) + 2 ^ (d + 1) := by rw [Nat.pow_succ]; omega
  obtain ⟨x1, n2, g1, h1, h2, i1⟩ := ih (2) (n + 1) (by omega) (by omega) (by have := Nat.one_le_two_pow (n := d + 1); omega)
  refine ⟨.un (3) x1, n2, .neg g1, by omega, by omega, ?_⟩
  have o1 := op1_pc (3) x1
  unfold hpB at *
  clear ih e2 g1
  generalize qBf l n = r at *
  have p5 := qAO r.kind 5 (by omega) (by omega)
  have p7 := qAO r.b 7 (by omega) (by omega)
  rw [show r.b % ((7 : Nat) : Int) = 4 from h7] at p7
  generalize x1.cs = c1 at *
  obtain ⟨rk, ra, rb, rt⟩ := r
  unfold Raw.cs at *
  dsimp only at *
  refine qAW Tryd.func41 rfl (by kernel_rfl) mixed (by kernel_rfl) (qle (by kernel_rfl)) Tryd.results41 rfl ?_
  repeat (first | (with_reducible first | apply qAr | apply qAq | apply qAp | apply qAj | apply qAA | apply qAK | apply qBg | apply qBw | apply qBi | apply qAF) | ((first | (with_reducible apply rp) | ((with_reducible apply rpG); eq_refl; exact qAu rfl; (focus repeat' (first | exact trivial | exact id | apply And.intro)); intro zg; have zh := zg; (try simp only [zs1, zs2, zs3, zs4] at zg))); first | ((with_reducible apply qAc); eq_refl; eq_refl; (first | exact (p5) | exact (p7)); eq_refl) | (exact qBk (z := ((d + 1 : Nat) : Int)) rfl rfl (by omega) (by omega) (by omega)) | ((with_reducible apply qAH); (iterate 3 eq_refl); exact (o1)) | ((with_reducible first | apply qAe | apply qAd); (conv => lhs; whnf)) | ((with_reducible first | apply qAU | apply qAg | apply qAi | apply qAC | apply qBx) <;> first | ((with_reducible apply tyOk); eq_refl) | eq_refl | exact id | decide)) | ((with_reducible apply rp1); ((with_reducible apply qAh); exact tyOk rfl; eq_refl)) | ((with_reducible apply rpN); ((with_reducible apply qAf); exact tyOk rfl; (iterate 5 eq_refl))) | ((with_reducible apply rpL); (refine qAa [] [] (ups := [(1000, .var 83 [.d (qBo l), .d (iD ((n + 1 : Nat))), .d (qBr cols)])]) rfl (n1) rfl (kpX rfl) rfl (insX rfl) (insQ rfl) rfl rfl rfl rfl rfl (insX rfl) rfl rfl); exact qAb _) | ((with_reducible apply rpL); (refine qAa [] [] (ups := [(1000, .var 83 [.d (qBo l), .d (iD ((n2 : Nat))), .d (qBr cols)])]) rfl (i1) rfl (kpX rfl) rfl (insX rfl) (insQ rfl) rfl rfl rfl rfl rfl (insX rfl) rfl rfl); exact qAb _) | ((with_reducible apply qAx); eq_refl; (focus (intro hd; (first | (cases hd; done) | (exfalso; simp at hd; omega)))); (intro hd; clear hd)) | ((with_reducible apply qAx); eq_refl; rotate_left; (focus (intro hd; (first | (cases hd; done) | (exfalso; simp at hd; omega)))); (intro hd; clear hd)))
  (with_reducible apply qA1 (l := [])); (focus (repeat' (first | (with_reducible apply qAJ) | (with_reducible apply qAD) | ((with_reducible apply qAZ); eq_refl; eq_refl; exact tyOk rfl; eq_refl; eq_refl)))); eq_refl; exact SubD.refl _; refine ⟨(by repeat' (first | exact qAX | (refine qAN rfl (by exact SubA.refl _) ?_))), (by repeat' (first | exact trivial | eq_refl | apply And.intro)), rfl, insS rfl, (by repeat' (first | exact trivial | exact qA5 rfl | apply And.intro))⟩
set_option maxHeartbeats 2000000 in
theorem expr_2_5 (l : List Raw) (cols : List Cl) (d n : Nat) (hd : d ≤ 10) (hn : n ≤ 1000000) (h5 : ¬ (qBf l n).kind % 5 = 0) (h7 : (qBf l n).b % 7 = 5)
    (ih : ∀ K n, 1 ≤ K → K ≤ 4 → n + 2 ^ (d + 1) ≤ 1000000 → qBV l cols (d + 1) K n) (hb : n + 2 ^ (d + 2) ≤ 1000000) : qBV l cols (d + 2) 2 n := by
  have n1 := qBR l n cols (by omega)
  have e2 : 2 ^ (d + 2) = 2 ^ (d + 1) + 2 ^ (d + 1) := by rw [Nat.pow_succ]; omega
  obtain ⟨x1, n2, g1, h1, h2, i1⟩ := ih (4) (n + 1) (by omega) (by omega) (by have := Nat.one_le_two_pow (n := d + 1); omega)
  refine ⟨.un (18) x1, n2, .len g1, by omega, by omega, ?_⟩
  have o1 := op1_pc (18) x1
  unfold hpB at *
  clear ih e2 g1
  generalize qBf l n = r at *
  have p5 := qAO r.kind 5 (by omega) (by omega)
  have p7 := qAO r.b 7 (by omega) (by omega)
  rw [show r.b % ((7 : Nat) : Int) = 5 from h7] at p7
  generalize x1.cs = c1 at *
  obtain ⟨rk, ra, rb, rt⟩ := r
  unfold Raw.cs at *
  dsimp only at *
  refine qAW Tryd.func41 rfl (by kernel_rfl) mixed (by kernel_rfl) (qle (by kernel_rfl)) Tryd.results41 rfl ?_
  repeat (first | (with_reducible first | apply qAr | apply qAq | apply qAp | apply qAj | apply qAA | apply qAK | apply qBg | apply qBw | apply qBi | apply qAF) | ((first | (with_reducible apply rp) | ((with_reducible apply rpG); eq_refl; exact qAu rfl; (focus repeat' (first | exact trivial | exact id | apply And.intro)); intro zg; have zh := zg; (try simp only [zs1, zs2, zs3, zs4] at zg))); first | ((with_reducible apply qAc); eq_refl; eq_refl; (first | exact (p5) | exact (p7)); eq_refl) | (exact qBk (z := ((d + 1 : Nat) : Int)) rfl rfl (by omega) (by omega) (by omega)) | ((with_reducible apply qAH); (iterate 3 eq_refl); exact (o1)) | ((with_reducible first | apply qAe | apply qAd); (conv => lhs; whnf)) | ((with_reducible first | apply qAU | apply qAg | apply qAi | apply qAC | apply qBx) <;> first | ((with_reducible apply tyOk); eq_refl) | eq_refl | exact id | decide)) | ((with_reducible apply rp1); ((with_reducible apply qAh); exact tyOk rfl; eq_refl)) | ((with_reducible apply rpN); ((with_reducible apply qAf); exact tyOk rfl; (iterate 5 eq_refl))) | ((with_reducible apply rpL); (refine qAa [] [] (ups := [(1000, .var 83 [.d (qBo l), .d (iD ((n + 1 : Nat))), .d (qBr cols)])]) rfl (n1) rfl (kpX rfl) rfl (insX rfl) (insQ rfl) rfl rfl rfl rfl rfl (insX rfl) rfl rfl); exact qAb _) | ((with_reducible apply rpL); (refine qAa [] [] (ups := [(1000, .var 83 [.d (qBo l), .d (iD ((n2 : Nat))), .d (qBr cols)])]) rfl (i1) rfl (kpX rfl) rfl (insX rfl) (insQ rfl) rfl rfl rfl rfl rfl (insX rfl) rfl rfl); exact qAb _) | ((with_reducible apply qAx); eq_refl; (focus (intro hd; (first | (cases hd; done) | (exfalso; simp at hd; omega)))); (intro hd; clear hd)) | ((with_reducible apply qAx); eq_refl; rotate_left; (focus (intro hd; (first | (cases hd; done) | (exfalso; simp at hd; omega)))); (intro hd; clear hd)))
  (with_reducible apply qA1 (l := [])); (focus (repeat' (first | (with_reducible apply qAJ) | (with_reducible apply qAD) | ((with_reducible apply qAZ); eq_refl; eq_refl; exact tyOk rfl; eq_refl; eq_refl)))); eq_refl; exact SubD.refl _; refine ⟨(by repeat' (first | exact qAX | (refine qAN rfl (by exact SubA.refl _) ?_))), (by repeat' (first | exact trivial | eq_refl | apply And.intro)), rfl, insS rfl, (by repeat' (first | exact trivial | exact qA5 rfl | apply And.intro))⟩
set_option maxHeartbeats 2000000 in
theorem expr_2_6 (l : List Raw) (cols : List Cl) (d n : Nat) (hd : d ≤ 10) (hn : n ≤ 1000000) (h5 : ¬ (qBf l n).kind % 5 = 0) (h7 : (qBf l n).b % 7 = 6)
    (ih : ∀ K n, 1 ≤ K → K ≤ 4 → n + 2 ^ (d + 1) ≤ 1000000 → qBV l cols (d + 1) K n) (hb : n + 2 ^ (d + 2) ≤ 1000000) : qBV l cols (d + 2) 2 n := by
  have n1 := qBR l n cols (by omega)
  have e2 : 2 ^ (d + 2) = 2 ^ (d + 1) + 2 ^ (d + 1) := by rw [Nat.pow_succ]; omega
  obtain ⟨x1, n2, g1, h1, h2, i1⟩ := ih (2) (n + 1) (by omega) (by omega) (by have := Nat.one_le_two_pow (n := d + 1); omega)
  obtain ⟨x2, n3, g2, h3, h4, i2⟩ := ih (2) n2 (by omega) (by omega) (by omega)
  refine ⟨.bi (20) x1 x2, n3, .coal g1 g2, by omega, by omega, ?_⟩
  have o1 := qCH (20) x1 x2
  unfold hpB at *
  clear ih e2 g1 g2
  generalize qBf l n = r at *
  have p5 := qAO r.kind 5 (by omega) (by omega)
  have p7 := qAO r.b 7 (by omega) (by omega)
  rw [show r.b % ((7 : Nat) : Int) = 6 from h7] at p7
  generalize x1.cs = c1 at *
  generalize x2.cs = c2 at *
  obtain ⟨rk, ra, rb, rt⟩ := r
  unfold Raw.cs at *
  dsimp only at *
  refine qAW Tryd.func41 rfl (by kernel_rfl) mixed (by kernel_rfl) (qle (by kernel_rfl)) Tryd.results41 rfl ?_
  repeat (first | (with_reducible first | apply qAr | apply qAq | apply qAp | apply qAj | apply qAA | apply qAK | apply qBg | apply qBw | apply qBi | apply qAF) | ((first | (with_reducible apply rp) | ((with_reducible apply rpG); eq_refl; exact qAu rfl; (focus repeat' (first | exact trivial | exact id | apply And.intro)); intro zg; have zh := zg; (try simp only [zs1, zs2, zs3, zs4] at zg))); first | ((with_reducible apply qAc); eq_refl; eq_refl; (first | exact (p5) | exact (p7)); eq_refl) | (exact qBk (z := ((d + 1 : Nat) : Int)) rfl rfl (by omega) (by omega) (by omega)) | ((with_reducible apply qAH); (iterate 3 eq_refl); exact (o1)) | ((with_reducible first | apply qAe | apply qAd); (conv => lhs; whnf)) | ((with_reducible first | apply qAU | apply qAg | apply qAi | apply qAC | apply qBx) <;> first | ((with_reducible apply tyOk); eq_refl) | eq_refl | exact id | decide)) | ((with_reducible apply rp1); ((with_reducible apply qAh); exact tyOk rfl; eq_refl)) | ((with_reducible apply rpN); ((with_reducible apply qAf); exact tyOk rfl; (iterate 5 eq_refl))) | ((with_reducible apply rpL); (refine qAa [] [] (ups := [(1000, .var 83 [.d (qBo l), .d (iD ((n + 1 : Nat))), .d (qBr cols)])]) rfl (n1) rfl (kpX rfl) rfl (insX rfl) (insQ rfl) rfl rfl rfl rfl rfl (insX rfl) rfl rfl); exact qAb _) | ((with_reducible apply rpL); (refine qAa [] [] (ups := [(1000, .var 83 [.d (qBo l), .d (iD ((n2 : Nat))), .d (qBr cols)])]) rfl (i1) rfl (kpX rfl) rfl (insX rfl) (insQ rfl) rfl rfl rfl rfl rfl (insX rfl) rfl rfl); exact qAb _) | ((with_reducible apply rpL); (refine qAa [] [] (ups := [(1000, .var 83 [.d (qBo l), .d (iD ((n3 : Nat))), .d (qBr cols)])]) rfl (i2) rfl (kpX rfl) rfl (insX rfl) (insQ rfl) rfl rfl rfl rfl rfl (insX rfl) rfl rfl); exact qAb _) | ((with_reducible apply qAx); eq_refl; (focus (intro hd; (first | (cases hd; done) | (exfalso; simp at hd; omega)))); (intro hd; clear hd)) | ((with_reducible apply qAx); eq_refl; rotate_left; (focus (intro hd; (first | (cases hd; done) | (exfalso; simp at hd; omega)))); (intro hd; clear hd)))
  (with_reducible apply qA1 (l := [])); (focus (repeat' (first | (with_reducible apply qAJ) | (with_reducible apply qAD) | ((with_reducible apply qAZ); eq_refl; eq_refl; exact tyOk rfl; eq_refl; eq_refl)))); eq_refl; exact SubD.refl _; refine ⟨(by repeat' (first | exact qAX | (refine qAN rfl (by exact SubA.refl _) ?_))), (by repeat' (first | exact trivial | eq_refl | apply And.intro)), rfl, insS rfl, (by repeat' (first | exact trivial | exact qA5 rfl | apply And.intro))⟩
set_option maxHeartbeats 2000000 in
theorem expr_2_0 (l : List Raw) (cols : List Cl) (d n : Nat) (hd : d ≤ 10) (hn : n ≤ 1000000) (h5 : ¬ (qBf l n).kind % 5 = 0) (h7 : (qBf l n).b % 7 = 0)
    (ih : ∀ K n, 1 ≤ K → K ≤ 4 → n + 2 ^ (d + 1) ≤ 1000000 → qBV l cols (d + 1) K n) (hb : n + 2 ^ (d + 2) ≤ 1000000) : qBV l cols (d + 2) 2 n := by
  have n1 := qBR l n cols (by omega)
  have e2 : 2 ^ (d + 2) = 2 ^ (d + 1) + 2 ^ (d + 1) := by rw [Nat.pow_succ]; omega
  obtain ⟨x1, n2, g1, h1, h2, i1⟩ := ih (2) (n + 1) (by omega) (by omega) (by have := Nat.one_le_two_pow (n := d + 1); omega)
  obtain ⟨x2, n3, g2, h3, h4, i2⟩ := ih (2) n2 (by omega) (by omega) (by omega)
  refine ⟨.bi (5) x1 x2, n3, .sum (by omega) g1 g2, by omega, by omega, ?_⟩
  have o1 := qCH (5) x1 x2
  unfold hpB at *
  clear ih e2 g1 g2
  generalize qBf l n = r at *
  have p5 := qAO r.kind 5 (by omega) (by omega)
  have p7 := qAO r.b 7 (by omega) (by omega)
  rw [show r.b % ((7 : Nat) : Int) = 0 from h7] at p7
  generalize x1.cs = c1 at *
  generalize x2.cs = c2 at *
  obtain ⟨rk, ra, rb, rt⟩ := r
  unfold Raw.cs at *
  dsimp only at *
  refine qAW Tryd.func41 rfl (by kernel_rfl) mixed (by kernel_rfl) (qle (by kernel_rfl)) Tryd.results41 rfl ?_
  repeat (first | (with_reducible first | apply qAr | apply qAq | apply qAp | apply qAj | apply qAA | apply qA4 | apply qAK | apply qBg | apply qBw | apply qBi | apply qAF) | ((first | (with_reducible apply rp) | ((with_reducible apply rpG); eq_refl; exact qAu rfl; (focus repeat' (first | exact trivial | exact id | apply And.intro)); intro zg; have zh := zg; (try simp only [zs1, zs2, zs3, zs4] at zg))); first | ((with_reducible apply qAc); eq_refl; eq_refl; (first | exact (p5) | exact (p7)); eq_refl) | (exact qBk (z := ((d + 1 : Nat) : Int)) rfl rfl (by omega) (by omega) (by omega)) | ((with_reducible apply qAH); (iterate 3 eq_refl); exact (o1)) | ((with_reducible first | apply qAe | apply qAd); (conv => lhs; whnf)) | ((with_reducible first | apply qAU | apply qAg | apply qAi | apply qAC | apply qBx) <;> first | ((with_reducible apply tyOk); eq_refl) | eq_refl | exact id | decide) | ((with_reducible apply qAV); eq_refl; eq_refl; omega; omega)) | ((with_reducible apply rp1); ((with_reducible apply qAh); exact tyOk rfl; eq_refl)) | ((with_reducible apply rpN); ((with_reducible apply qAf); exact tyOk rfl; (iterate 5 eq_refl))) | ((with_reducible apply rpL); (refine qAa [] [] (ups := [(1000, .var 83 [.d (qBo l), .d (iD ((n + 1 : Nat))), .d (qBr cols)])]) rfl (n1) rfl (kpX rfl) rfl (insX rfl) (insQ rfl) rfl rfl rfl rfl rfl (insX rfl) rfl rfl); exact qAb _) | ((with_reducible apply rpL); (refine qAa [] [] (ups := [(1000, .var 83 [.d (qBo l), .d (iD ((n2 : Nat))), .d (qBr cols)])]) rfl (i1) rfl (kpX rfl) rfl (insX rfl) (insQ rfl) rfl rfl rfl rfl rfl (insX rfl) rfl rfl); exact qAb _) | ((with_reducible apply rpL); (refine qAa [] [] (ups := [(1000, .var 83 [.d (qBo l), .d (iD ((n3 : Nat))), .d (qBr cols)])]) rfl (i2) rfl (kpX rfl) rfl (insX rfl) (insQ rfl) rfl rfl rfl rfl rfl (insX rfl) rfl rfl); exact qAb _) | ((with_reducible apply qAx); eq_refl; (focus (intro hd; (first | (cases hd; done) | (exfalso; simp at hd; omega)))); (intro hd; clear hd)) | ((with_reducible apply qAx); eq_refl; rotate_left; (focus (intro hd; (first | (cases hd; done) | (exfalso; simp at hd; omega)))); (intro hd; clear hd)))
  (with_reducible apply qA1 (l := [])); (focus (repeat' (first | (with_reducible apply qAJ) | (with_reducible apply qAD) | ((with_reducible apply qAZ); eq_refl; eq_refl; exact tyOk rfl; eq_refl; eq_refl)))); eq_refl; exact SubD.refl _; refine ⟨(by repeat' (first | exact qAX | (refine qAN rfl (by exact SubA.refl _) ?_))), (by repeat' (first | exact trivial | eq_refl | apply And.intro)), rfl, insS rfl, (by repeat' (first | exact trivial | exact qA5 rfl | apply And.intro))⟩
set_option maxHeartbeats 2000000 in
theorem expr_2_1 (l : List Raw) (cols : List Cl) (d n : Nat) (hd : d ≤ 10) (hn : n ≤ 1000000) (h5 : ¬ (qBf l n).kind % 5 = 0) (h7 : (qBf l n).b % 7 = 1)
    (ih : ∀ K n, 1 ≤ K → K ≤ 4 → n + 2 ^ (d + 1) ≤ 1000000 → qBV l cols (d + 1) K n) (hb : n + 2 ^ (d + 2) ≤ 1000000) : qBV l cols (d + 2) 2 n := by
  have n1 := qBR l n cols (by omega)
  have e2 : 2 ^ (d + 2) = 2 ^ (d + 1) + 2 ^ (d + 1) := by rw [Nat.pow_succ]; omega
  obtain ⟨x1, n2, g1, h1, h2, i1⟩ := ih (2) (n + 1) (by omega) (by omega) (by have := Nat.one_le_two_pow (n := d + 1); omega)
  obtain ⟨x2, n3, g2, h3, h4, i2⟩ := ih (2) n2 (by omega) (by omega) (by omega)
  refine ⟨.bi (6) x1 x2, n3, .sum (by omega) g1 g2, by omega, by omega, ?_⟩
  have o1 := qCH (6) x1 x2
  unfold hpB at *
  clear ih e2 g1 g2
  generalize qBf l n = r at *
  have p5 := qAO r.kind 5 (by omega) (by omega)
  have p7 := qAO r.b 7 (by omega) (by omega)
  rw [show r.b % ((7 : Nat) : Int) = 1 from h7] at p7
  generalize x1.cs = c1 at *
  generalize x2.cs = c2 at *
  obtain ⟨rk, ra, rb, rt⟩ := r
  unfold Raw.cs at *
  dsimp only at *
  refine qAW Tryd.func41 rfl (by kernel_rfl) mixed (by kernel_rfl) (qle (by kernel_rfl)) Tryd.results41 rfl ?_
  repeat (first | (with_reducible first | apply qAr | apply qAq | apply qAp | apply qAj | apply qAA | apply qA4 | apply qAK | apply qBg | apply qBw | apply qBi | apply qAF) | ((first | (with_reducible apply rp) | ((with_reducible apply rpG); eq_refl; exact qAu rfl; (focus repeat' (first | exact trivial | exact id | apply And.intro)); intro zg; have zh := zg; (try simp only [zs1, zs2, zs3, zs4] at zg))); first | ((with_reducible apply qAc); eq_refl; eq_refl; (first | exact (p5) | exact (p7)); eq_refl) | (exact qBk (z := ((d + 1 : Nat) : Int)) rfl rfl (by omega) (by omega) (by omega)) | ((with_reducible apply qAH); (iterate 3 eq_refl); exact (o1)) | ((with_reducible first | apply qAe | apply qAd); (conv => lhs; whnf)) | ((with_reducible first | apply qAU | apply qAg | apply qAi | apply qAC | apply qBx) <;> first | ((with_reducible apply tyOk); eq_refl) | eq_refl | exact id | decide) | ((with_reducible apply qAV); eq_refl; eq_refl; omega; omega)) | ((with_reducible apply rp1); ((with_reducible apply qAh); exact tyOk rfl; eq_refl)) | ((with_reducible apply rpN); ((with_reducible apply qAf); exact tyOk rfl; (iterate 5 eq_refl))) | ((with_reducible apply rpL); (refine qAa [] [] (ups := [(1000, .var 83 [.d (qBo l), .d (iD ((n + 1 : Nat))), .d (qBr cols)])]) rfl (n1) rfl (kpX rfl) rfl (insX rfl) (insQ rfl) rfl rfl rfl rfl rfl (insX rfl) rfl rfl); exact qAb _) | ((with_reducible apply rpL); (refine qAa [] [] (ups := [(1000, .var 83 [.d (qBo l), .d (iD ((n2 : Nat))), .d (qBr cols)])]) rfl (i1) rfl (kpX rfl) rfl (insX rfl) (insQ rfl) rfl rfl rfl rfl rfl (insX rfl) rfl rfl); exact qAb _) | ((with_reducible apply rpL); (refine qAa [] [] (ups := [(1000, .var 83 [.d (qBo l), .d (iD ((n3 : Nat))), .d (qBr cols)])]) rfl (i2) rfl (kpX rfl) rfl (insX rfl) (insQ rfl) rfl rfl rfl rfl rfl (insX rfl) rfl rfl); exact qAb _) | ((with_reducible apply qAx); eq_refl; (focus (intro hd; (first | (cases hd; done) | (exfalso; simp at hd; omega)))); (intro hd; clear hd)) | ((with_reducible apply qAx); eq_refl; rotate_left; (focus (intro hd; (first | (cases hd; done) | (exfalso; simp at hd; omega)))); (intro hd; clear hd)))
  (with_reducible apply qA1 (l := [])); (focus (repeat' (first | (with_reducible apply qAJ) | (with_reducible apply qAD) | ((with_reducible apply qAZ); eq_refl; eq_refl; exact tyOk rfl; eq_refl; eq_refl)))); eq_refl; exact SubD.refl _; refine ⟨(by repeat' (first | exact qAX | (refine qAN rfl (by exact SubA.refl _) ?_))), (by repeat' (first | exact trivial | eq_refl | apply And.intro)), rfl, insS rfl, (by repeat' (first | exact trivial | exact qA5 rfl | apply And.intro))⟩
set_option maxHeartbeats 2000000 in
theorem expr_2_2 (l : List Raw) (cols : List Cl) (d n : Nat) (hd : d ≤ 10) (hn : n ≤ 1000000) (h5 : ¬ (qBf l n).kind % 5 = 0) (h7 : (qBf l n).b % 7 = 2)
    (ih : ∀ K n, 1 ≤ K → K ≤ 4 → n + 2 ^ (d + 1) ≤ 1000000 → qBV l cols (d + 1) K n) (hb : n + 2 ^ (d + 2) ≤ 1000000) : qBV l cols (d + 2) 2 n := by
  have n1 := qBR l n cols (by omega)
  have e2 : 2 ^ (d + 2) = 2 ^ (d + 1) + 2 ^ (d + 1) := by rw [Nat.pow_succ]; omega
  obtain ⟨x1, n2, g1, h1, h2, i1⟩ := ih (2) (n + 1) (by omega) (by omega) (by have := Nat.one_le_two_pow (n := d + 1); omega)
  obtain ⟨x2, n3, g2, h3, h4, i2⟩ := ih (2) n2 (by omega) (by omega) (by omega)
  refine ⟨.bi (7) x1 x2, n3, .sum (by omega) g1 g2, by omega, by omega, ?_⟩
  have o1 := qCH (7) x1 x2
  unfold hpB at *
  clear ih e2 g1 g2
  generalize qBf l n = r at *
  have p5 := qAO r.kind 5 (by omega) (by omega)
  have p7 := qAO r.b 7 (by omega) (by omega)
  rw [show r.b % ((7 : Nat) : Int) = 2 from h7] at p7
  generalize x1.cs = c1 at *
  generalize x2.cs = c2 at *
  obtain ⟨rk, ra, rb, rt⟩ := r
  unfold Raw.cs at *
  dsimp only at *
  refine qAW Tryd.func41 rfl (by kernel_rfl) mixed (by kernel_rfl) (qle (by kernel_rfl)) Tryd.results41 rfl ?_
  repeat (first | (with_reducible first | apply qAr | apply qAq | apply qAp | apply qAj | apply qAA | apply qA4 | apply qAK | apply qBg | apply qBw | apply qBi | apply qAF) | ((first | (with_reducible apply rp) | ((with_reducible apply rpG); eq_refl; exact qAu rfl; (focus repeat' (first | exact trivial | exact id | apply And.intro)); intro zg; have zh := zg; (try simp only [zs1, zs2, zs3, zs4] at zg))); first | ((with_reducible apply qAc); eq_refl; eq_refl; (first | exact (p5) | exact (p7)); eq_refl) | (exact qBk (z := ((d + 1 : Nat) : Int)) rfl rfl (by omega) (by omega) (by omega)) | ((with_reducible apply qAH); (iterate 3 eq_refl); exact (o1)) | ((with_reducible first | apply qAe | apply qAd); (conv => lhs; whnf)) | ((with_reducible first | apply qAU | apply qAg | apply qAi | apply qAC | apply qBx) <;> first | ((with_reducible apply tyOk); eq_refl) | eq_refl | exact id | decide) | ((with_reducible apply qAV); eq_refl; eq_refl; omega; omega)) | ((with_reducible apply rp1); ((with_reducible apply qAh); exact tyOk rfl; eq_refl)) | ((with_reducible apply rpN); ((with_reducible apply qAf); exact tyOk rfl; (iterate 5 eq_refl))) | ((with_reducible apply rpL); (refine qAa [] [] (ups := [(1000, .var 83 [.d (qBo l), .d (iD ((n + 1 : Nat))), .d (qBr cols)])]) rfl (n1) rfl (kpX rfl) rfl (insX rfl) (insQ rfl) rfl rfl rfl rfl rfl (insX rfl) rfl rfl); exact qAb _) | ((with_reducible apply rpL); (refine qAa [] [] (ups := [(1000, .var 83 [.d (qBo l), .d (iD ((n2 : Nat))), .d (qBr cols)])]) rfl (i1) rfl (kpX rfl) rfl (insX rfl) (insQ rfl) rfl rfl rfl rfl rfl (insX rfl) rfl rfl); exact qAb _) | ((with_reducible apply rpL); (refine qAa [] [] (ups := [(1000, .var 83 [.d (qBo l), .d (iD ((n3 : Nat))), .d (qBr cols)])]) rfl (i2) rfl (kpX rfl) rfl (insX rfl) (insQ rfl) rfl rfl rfl rfl rfl (insX rfl) rfl rfl); exact qAb _) | ((with_reducible apply qAx); eq_refl; (focus (intro hd; (first | (cases hd; done) | (exfalso; simp at hd; omega)))); (intro hd; clear hd)) | ((with_reducible apply qAx); eq_refl; rotate_left; (focus (intro hd; (first | (cases hd; done) | (exfalso; simp at hd; omega)))); (intro hd; clear hd)))
  (with_reducible apply qA1 (l := [])); (focus (repeat' (first | (with_reducible apply qAJ) | (with_reducible apply qAD) | ((with_reducible apply qAZ); eq_refl; eq_refl; exact tyOk rfl; eq_refl; eq_refl)))); eq_refl; exact SubD.refl _; refine ⟨(by repeat' (first | exact qAX | (refine qAN rfl (by exact SubA.refl _) ?_))), (by repeat' (first | exact trivial | eq_refl | apply And.intro)), rfl, insS rfl, (by repeat' (first | exact trivial | exact qA5 rfl | apply And.intro))⟩
set_option maxHeartbeats 2000000 in
theorem expr_2_3 (l : List Raw) (cols : List Cl) (d n : Nat) (hd : d ≤ 10) (hn : n ≤ 1000000) (h5 : ¬ (qBf l n).kind % 5 = 0) (h7 : (qBf l n).b % 7 = 3)
    (ih : ∀ K n, 1 ≤ K → K ≤ 4 → n + 2 ^ (d + 1) ≤ 1000000 → qBV l cols (d + 1) K n) (hb : n + 2 ^ (d + 2) ≤ 1000000) : qBV l cols (d + 2) 2 n := by
  have n1 := qBR l n cols (by omega)
  have e2 : 2 ^ (d + 2) = 2 ^ (d + 1) + 2 ^ (d + 1) := by rw [Nat.pow_succ]; omega
  obtain ⟨x1, n2, g1, h1, h2, i1⟩ := ih (2) (n + 1) (by omega) (by omega) (by have := Nat.one_le_two_pow (n := d + 1); omega)
  obtain ⟨x2, n3, g2, h3, h4, i2⟩ := ih (2) n2 (by omega) (by omega) (by omega)
  refine ⟨.bi (8) x1 x2, n3, .sum (by omega) g1 g2, by omega, by omega, ?_⟩
  have o1 := qCH (8) x1 x2
  unfold hpB at *
  clear ih e2 g1 g2
  generalize qBf l n = r at *
  have p5 := qAO r.kind 5 (by omega) (by omega)
  have p7 := qAO r.b 7 (by omega) (by omega)
  rw [show r.b % ((7 : Nat) : Int) = 3 from h7] at p7
  generalize x1.cs = c1 at *
  generalize x2.cs = c2 at *
  obtain ⟨rk, ra, rb, rt⟩ := r
  unfold Raw.cs at *
  dsimp only at *
  refine qAW Tryd.func41 rfl (by kernel_rfl) mixed (by kernel_rfl) (qle (by kernel_rfl)) Tryd.results41 rfl ?_
  repeat (first | (with_reducible first | apply qAr | apply qAq | apply qAp | apply qAj | apply qAA | apply qA4 | apply qAK | apply qBg | apply qBw | apply qBi | apply qAF) | ((first | (with_reducible apply rp) | ((with_reducible apply rpG); eq_refl; exact qAu rfl; (focus repeat' (first | exact trivial | exact id | apply And.intro)); intro zg; have zh := zg; (try simp only [zs1, zs2, zs3, zs4] at zg))); first | ((with_reducible apply qAc); eq_refl; eq_refl; (first | exact (p5) | exact (p7)); eq_refl) | (exact qBk (z := ((d + 1 : Nat) : Int)) rfl rfl (by omega) (by omega) (by omega)) | ((with_reducible apply qAH); (iterate 3 eq_refl); exact (o1)) | ((with_reducible first | apply qAe | apply qAd); (conv => lhs; whnf)) | ((with_reducible first | apply qAU | apply qAg | apply qAi | apply qAC | apply qBx) <;> first | ((with_reducible apply tyOk); eq_refl) | eq_refl | exact id | decide) | ((with_reducible apply qAV); eq_refl; eq_refl; omega; omega)) | ((with_reducible apply rp1); ((with_reducible apply qAh); exact tyOk rfl; eq_refl)) | ((with_reducible apply rpN); ((with_reducible apply qAf); exact tyOk rfl; (iterate 5 eq_refl))) | ((with_reducible apply rpL); (refine qAa [] [] (ups := [(1000, .var 83 [.d (qBo l), .d (iD ((n + 1 : Nat))), .d (qBr cols)])]) rfl (n1) rfl (kpX rfl) rfl (insX rfl) (insQ rfl) rfl rfl rfl rfl rfl (insX rfl) rfl rfl); exact qAb _) | ((with_reducible apply rpL); (refine qAa [] [] (ups := [(1000, .var 83 [.d (qBo l), .d (iD ((n2 : Nat))), .d (qBr cols)])]) rfl (i1) rfl (kpX rfl) rfl (insX rfl) (insQ rfl) rfl rfl rfl rfl rfl (insX rfl) rfl rfl); exact qAb _) | ((with_reducible apply rpL); (refine qAa [] [] (ups := [(1000, .var 83 [.d (qBo l), .d (iD ((n3 : Nat))), .d (qBr cols)])]) rfl (i2) rfl (kpX rfl) rfl (insX rfl) (insQ rfl) rfl rfl rfl rfl rfl (insX rfl) rfl rfl); exact qAb _) | ((with_reducible apply qAx); eq_refl; (focus (intro hd; (first | (cases hd; done) | (exfalso; simp at hd; omega)))); (intro hd; clear hd)) | ((with_reducible apply qAx); eq_refl; rotate_left; (focus (intro hd; (first | (cases hd; done) | (exfalso; simp at hd; omega)))); (intro hd; clear hd)))
  (with_reducible apply qA1 (l := [])); (focus (repeat' (first | (with_reducible apply qAJ) | (with_reducible apply qAD) | ((with_reducible apply qAZ); eq_refl; eq_refl; exact tyOk rfl; eq_refl; eq_refl)))); eq_refl; exact SubD.refl _; refine ⟨(by repeat' (first | exact qAX | (refine qAN rfl (by exact SubA.refl _) ?_))), (by repeat' (first | exact trivial | eq_refl | apply And.intro)), rfl, insS rfl, (by repeat' (first | exact trivial | exact qA5 rfl | apply And.intro))⟩
end Go.Proofs.YtlpnnnmdkglkcaaDoor


/-
  chirographkeep's heap of raw things: expr, an operation of parts. No condition but the sizes.
-/
namespace Go.Proofs.YtlpnnnmdkglkcaaDoor
open Go.RowKit

set_option maxHeartbeats 2000000 in
theorem expr_4_0 (l : List Raw) (cols : List Cl) (d n : Nat) (hd : d ≤ 10) (hn : n ≤ 1000000) (h5 : ¬ (qBf l n).kind % 5 = 0) (h7 : (qBf l n).b % 7 = 0)
    (ih : ∀ K n, 1 ≤ K → K ≤ 4 → n + 2 ^ (d + 1) ≤ 1000000 → qBV l cols (d + 1) K n) (hb : n + 2 ^ (d + 2) ≤ 1000000) : qBV l cols (d + 2) 4 n := by
  have n1 := qBR l n cols (by omega)
  have e2 : 2 ^ (d + 2) = 2 ^ (d + 1) + 2 ^ (d + 1) := by rw [Nat.pow_succ]; omega
  obtain ⟨x1, n2, g1, h1, h2, i1⟩ := ih (4) (n + 1) (by omega) (by omega) (by have := Nat.one_le_two_pow (n := d + 1); omega)
  obtain ⟨x2, n3, g2, h3, h4, i2⟩ := ih (4) n2 (by omega) (by omega) (by omega)
  refine ⟨.bi (19) x1 x2, n3, .join g1 g2, by omega, by omega, ?_⟩
  have o1 := qCH (19) x1 x2
  unfold hpB at *
  clear ih e2 g1 g2
  generalize qBf l n = r at *
  have p5 := qAO r.kind 5 (by omega) (by omega)
  have p7 := qAO r.b 7 (by omega) (by omega)
  rw [show r.b % ((7 : Nat) : Int) = 0 from h7] at p7
  generalize x1.cs = c1 at *
  generalize x2.cs = c2 at *
  obtain ⟨rk, ra, rb, rt⟩ := r
  unfold Raw.cs at *
  dsimp only at *
  refine qAW Tryd.func41 rfl (by kernel_rfl) mixed (by kernel_rfl) (qle (by kernel_rfl)) Tryd.results41 rfl ?_
  repeat (first | (with_reducible first | apply qAr | apply qAq | apply qAp | apply qAj | apply qAA | apply qAK | apply qBg | apply qBw | apply qBi | apply qAF) | ((first | (with_reducible apply rp) | ((with_reducible apply rpG); eq_refl; exact qAu rfl; (focus repeat' (first | exact trivial | exact id | apply And.intro)); intro zg; have zh := zg; (try simp only [zs1, zs2, zs3, zs4] at zg))); first | ((with_reducible apply qAc); eq_refl; eq_refl; (first | exact (p5) | exact (p7)); eq_refl) | (exact qBk (z := ((d + 1 : Nat) : Int)) rfl rfl (by omega) (by omega) (by omega)) | ((with_reducible apply qAH); (iterate 3 eq_refl); exact (o1)) | ((with_reducible first | apply qAe | apply qAd); (conv => lhs; whnf)) | ((with_reducible first | apply qAU | apply qAg | apply qAi | apply qAC | apply qA0 | apply qBx) <;> first | ((with_reducible apply tyOk); eq_refl) | eq_refl | exact id | decide)) | ((with_reducible apply rp1); ((with_reducible apply qAh); exact tyOk rfl; eq_refl)) | ((with_reducible apply rpN); ((with_reducible apply qAf); exact tyOk rfl; (iterate 5 eq_refl))) | ((with_reducible apply rpL); (refine qAa [] [] (ups := [(1000, .var 83 [.d (qBo l), .d (iD ((n + 1 : Nat))), .d (qBr cols)])]) rfl (n1) rfl (kpX rfl) rfl (insX rfl) (insQ rfl) rfl rfl rfl rfl rfl (insX rfl) rfl rfl); exact qAb _) | ((with_reducible apply rpL); (refine qAa [] [] (ups := [(1000, .var 83 [.d (qBo l), .d (iD ((n2 : Nat))), .d (qBr cols)])]) rfl (i1) rfl (kpX rfl) rfl (insX rfl) (insQ rfl) rfl rfl rfl rfl rfl (insX rfl) rfl rfl); exact qAb _) | ((with_reducible apply rpL); (refine qAa [] [] (ups := [(1000, .var 83 [.d (qBo l), .d (iD ((n3 : Nat))), .d (qBr cols)])]) rfl (i2) rfl (kpX rfl) rfl (insX rfl) (insQ rfl) rfl rfl rfl rfl rfl (insX rfl) rfl rfl); exact qAb _) | ((with_reducible apply qAx); eq_refl; (focus (intro hd; (first | (cases hd; done) | (exfalso; simp at hd; omega)))); (intro hd; clear hd)) | ((with_reducible apply qAx); eq_refl; rotate_left; (focus (intro hd; (first | (cases hd; done) | (exfalso; simp at hd; omega)))); (intro hd; clear hd)))
  (with_reducible apply qA1 (l := [])); (focus (repeat' (first | (with_reducible apply qAJ) | (with_reducible apply qAD) | ((with_reducible apply qAZ); eq_refl; eq_refl; exact tyOk rfl; eq_refl; eq_refl)))); eq_refl; exact SubD.refl _; refine ⟨(by repeat' (first | exact qAX | (refine qAN rfl (by exact SubA.refl _) ?_))), (by repeat' (first | exact trivial | eq_refl | apply And.intro)), rfl, insS rfl, (by repeat' (first | exact trivial | exact qA5 rfl | apply And.intro))⟩
set_option maxHeartbeats 2000000 in
theorem expr_4_1 (l : List Raw) (cols : List Cl) (d n : Nat) (hd : d ≤ 10) (hn : n ≤ 1000000) (h5 : ¬ (qBf l n).kind % 5 = 0) (h7 : (qBf l n).b % 7 = 1)
    (ih : ∀ K n, 1 ≤ K → K ≤ 4 → n + 2 ^ (d + 1) ≤ 1000000 → qBV l cols (d + 1) K n) (hb : n + 2 ^ (d + 2) ≤ 1000000) : qBV l cols (d + 2) 4 n := by
  have n1 := qBR l n cols (by omega)
  have e2 : 2 ^ (d + 2) = 2 ^ (d + 1) + 2 ^ (d + 1) := by rw [Nat.pow_succ]; omega
  obtain ⟨x1, n2, g1, h1, h2, i1⟩ := ih (4) (n + 1) (by omega) (by omega) (by have := Nat.one_le_two_pow (n := d + 1); omega)
  obtain ⟨x2, n3, g2, h3, h4, i2⟩ := ih (4) n2 (by omega) (by omega) (by omega)
  refine ⟨.bi (19) x1 x2, n3, .join g1 g2, by omega, by omega, ?_⟩
  have o1 := qCH (19) x1 x2
  unfold hpB at *
  clear ih e2 g1 g2
  generalize qBf l n = r at *
  have p5 := qAO r.kind 5 (by omega) (by omega)
  have p7 := qAO r.b 7 (by omega) (by omega)
  rw [show r.b % ((7 : Nat) : Int) = 1 from h7] at p7
  generalize x1.cs = c1 at *
  generalize x2.cs = c2 at *
  obtain ⟨rk, ra, rb, rt⟩ := r
  unfold Raw.cs at *
  dsimp only at *
  refine qAW Tryd.func41 rfl (by kernel_rfl) mixed (by kernel_rfl) (qle (by kernel_rfl)) Tryd.results41 rfl ?_
  repeat (first | (with_reducible first | apply qAr | apply qAq | apply qAp | apply qAj | apply qAA | apply qAK | apply qBg | apply qBw | apply qBi | apply qAF) | ((first | (with_reducible apply rp) | ((with_reducible apply rpG); eq_refl; exact qAu rfl; (focus repeat' (first | exact trivial | exact id | apply And.intro)); intro zg; have zh := zg; (try simp only [zs1, zs2, zs3, zs4] at zg))); first | ((with_reducible apply qAc); eq_refl; eq_refl; (first | exact (p5) | exact (p7)); eq_refl) | (exact qBk (z := ((d + 1 : Nat) : Int)) rfl rfl (by omega) (by omega) (by omega)) | ((with_reducible apply qAH); (iterate 3 eq_refl); exact (o1)) | ((with_reducible first | apply qAe | apply qAd); (conv => lhs; whnf)) | ((with_reducible first | apply qAU | apply qAg | apply qAi | apply qAC | apply qA0 | apply qBx) <;> first | ((with_reducible apply tyOk); eq_refl) | eq_refl | exact id | decide)) | ((with_reducible apply rp1); ((with_reducible apply qAh); exact tyOk rfl; eq_refl)) | ((with_reducible apply rpN); ((with_reducible apply qAf); exact tyOk rfl; (iterate 5 eq_refl))) | ((with_reducible apply rpL); (refine qAa [] [] (ups := [(1000, .var 83 [.d (qBo l), .d (iD ((n + 1 : Nat))), .d (qBr cols)])]) rfl (n1) rfl (kpX rfl) rfl (insX rfl) (insQ rfl) rfl rfl rfl rfl rfl (insX rfl) rfl rfl); exact qAb _) | ((with_reducible apply rpL); (refine qAa [] [] (ups := [(1000, .var 83 [.d (qBo l), .d (iD ((n2 : Nat))), .d (qBr cols)])]) rfl (i1) rfl (kpX rfl) rfl (insX rfl) (insQ rfl) rfl rfl rfl rfl rfl (insX rfl) rfl rfl); exact qAb _) | ((with_reducible apply rpL); (refine qAa [] [] (ups := [(1000, .var 83 [.d (qBo l), .d (iD ((n3 : Nat))), .d (qBr cols)])]) rfl (i2) rfl (kpX rfl) rfl (insX rfl) (insQ rfl) rfl rfl rfl rfl rfl (insX rfl) rfl rfl); exact qAb _) | ((with_reducible apply qAx); eq_refl; (focus (intro hd; (first | (cases hd; done) | (exfalso; simp at hd; omega)))); (intro hd; clear hd)) | ((with_reducible apply qAx); eq_refl; rotate_left; (focus (intro hd; (first | (cases hd; done) | (exfalso; simp at hd; omega)))); (intro hd; clear hd)))
  (with_reducible apply qA1 (l := [])); (focus (repeat' (first | (with_reducible apply qAJ) | (with_reducible apply qAD) | ((with_reducible apply qAZ); eq_refl; eq_refl; exact tyOk rfl; eq_refl; eq_refl)))); eq_refl; exact SubD.refl _; refine ⟨(by repeat' (first | exact qAX | (refine qAN rfl (by exact SubA.refl _) ?_))), (by repeat' (first | exact trivial | eq_refl | apply And.intro)), rfl, insS rfl, (by repeat' (first | exact trivial | exact qA5 rfl | apply And.intro))⟩
set_option maxHeartbeats 2000000 in
theorem expr_4_2 (l : List Raw) (cols : List Cl) (d n : Nat) (hd : d ≤ 10) (hn : n ≤ 1000000) (h5 : ¬ (qBf l n).kind % 5 = 0) (h7 : (qBf l n).b % 7 = 2)
    (ih : ∀ K n, 1 ≤ K → K ≤ 4 → n + 2 ^ (d + 1) ≤ 1000000 → qBV l cols (d + 1) K n) (hb : n + 2 ^ (d + 2) ≤ 1000000) : qBV l cols (d + 2) 4 n := by
  have n1 := qBR l n cols (by omega)
  have e2 : 2 ^ (d + 2) = 2 ^ (d + 1) + 2 ^ (d + 1) := by rw [Nat.pow_succ]; omega
  obtain ⟨x1, n2, g1, h1, h2, i1⟩ := ih (4) (n + 1) (by omega) (by omega) (by have := Nat.one_le_two_pow (n := d + 1); omega)
  obtain ⟨x2, n3, g2, h3, h4, i2⟩ := ih (4) n2 (by omega) (by omega) (by omega)
  refine ⟨.bi (19) x1 x2, n3, .join g1 g2, by omega, by omega, ?_⟩
  have o1 := qCH (19) x1 x2
  unfold hpB at *
  clear ih e2 g1 g2
  generalize qBf l n = r at *
  have p5 := qAO r.kind 5 (by omega) (by omega)
  have p7 := qAO r.b 7 (by omega) (by omega)
  rw [show r.b % ((7 : Nat) : Int) = 2 from h7] at p7
  generalize x1.cs = c1 at *
  generalize x2.cs = c2 at *
  obtain ⟨rk, ra, rb, rt⟩ := r
  unfold Raw.cs at *
  dsimp only at *
  refine qAW Tryd.func41 rfl (by kernel_rfl) mixed (by kernel_rfl) (qle (by kernel_rfl)) Tryd.results41 rfl ?_
  repeat (first | (with_reducible first | apply qAr | apply qAq | apply qAp | apply qAj | apply qAA | apply qAK | apply qBg | apply qBw | apply qBi | apply qAF) | ((first | (with_reducible apply rp) | ((with_reducible apply rpG); eq_refl; exact qAu rfl; (focus repeat' (first | exact trivial | exact id | apply And.intro)); intro zg; have zh := zg; (try simp only [zs1, zs2, zs3, zs4] at zg))); first | ((with_reducible apply qAc); eq_refl; eq_refl; (first | exact (p5) | exact (p7)); eq_refl) | (exact qBk (z := ((d + 1 : Nat) : Int)) rfl rfl (by omega) (by omega) (by omega)) | ((with_reducible apply qAH); (iterate 3 eq_refl); exact (o1)) | ((with_reducible first | apply qAe | apply qAd); (conv => lhs; whnf)) | ((with_reducible first | apply qAU | apply qAg | apply qAi | apply qAC | apply qA0 | apply qBx) <;> first | ((with_reducible apply tyOk); eq_refl) | eq_refl | exact id | decide)) | ((with_reducible apply rp1); ((with_reducible apply qAh); exact tyOk rfl; eq_refl)) | ((with_reducible apply rpN); ((with_reducible apply qAf); exact tyOk rfl; (iterate 5 eq_refl))) | ((with_reducible apply rpL); (refine qAa [] [] (ups := [(1000, .var 83 [.d (qBo l), .d (iD ((n + 1 : Nat))), .d (qBr cols)])]) rfl (n1) rfl (kpX rfl) rfl (insX rfl) (insQ rfl) rfl rfl rfl rfl rfl (insX rfl) rfl rfl); exact qAb _) | ((with_reducible apply rpL); (refine qAa [] [] (ups := [(1000, .var 83 [.d (qBo l), .d (iD ((n2 : Nat))), .d (qBr cols)])]) rfl (i1) rfl (kpX rfl) rfl (insX rfl) (insQ rfl) rfl rfl rfl rfl rfl (insX rfl) rfl rfl); exact qAb _) | ((with_reducible apply rpL); (refine qAa [] [] (ups := [(1000, .var 83 [.d (qBo l), .d (iD ((n3 : Nat))), .d (qBr cols)])]) rfl (i2) rfl (kpX rfl) rfl (insX rfl) (insQ rfl) rfl rfl rfl rfl rfl (insX rfl) rfl rfl); exact qAb _) | ((with_reducible apply qAx); eq_refl; (focus (intro hd; (first | (cases hd; done) | (exfalso; simp at hd; omega)))); (intro hd; clear hd)) | ((with_reducible apply qAx); eq_refl; rotate_left; (focus (intro hd; (first | (cases hd; done) | (exfalso; simp at hd; omega)))); (intro hd; clear hd)))
  (with_reducible apply qA1 (l := [])); (focus (repeat' (first | (with_reducible apply qAJ) | (with_reducible apply qAD) | ((with_reducible apply qAZ); eq_refl; eq_refl; exact tyOk rfl; eq_refl; eq_refl)))); eq_refl; exact SubD.refl _; refine ⟨(by repeat' (first | exact qAX | (refine qAN rfl (by exact SubA.refl _) ?_))), (by repeat' (first | exact trivial | eq_refl | apply And.intro)), rfl, insS rfl, (by repeat' (first | exact trivial | exact qA5 rfl | apply And.intro))⟩
set_option maxHeartbeats 2000000 in
theorem expr_4_3 (l : List Raw) (cols : List Cl) (d n : Nat) (hd : d ≤ 10) (hn : n ≤ 1000000) (h5 : ¬ (qBf l n).kind % 5 = 0) (h7 : (qBf l n).b % 7 = 3)
    (ih : ∀ K n, 1 ≤ K → K ≤ 4 → n + 2 ^ (d + 1) ≤ 1000000 → qBV l cols (d + 1) K n) (hb : n + 2 ^ (d + 2) ≤ 1000000) : qBV l cols (d + 2) 4 n := by
  have n1 := qBR l n cols (by omega)
  have e2 : 2 ^ (d + 2) = 2 ^ (d + 1) + 2 ^ (d + 1) := by rw [Nat.pow_succ]; omega
  obtain ⟨x1, n2, g1, h1, h2, i1⟩ := ih (4) (n + 1) (by omega) (by omega) (by have := Nat.one_le_two_pow (n := d + 1); omega)
  obtain ⟨x2, n3, g2, h3, h4, i2⟩ := ih (4) n2 (by omega) (by omega) (by omega)
  refine ⟨.bi (19) x1 x2, n3, .join g1 g2, by omega, by omega, ?_⟩
  have o1 := qCH (19) x1 x2
  unfold hpB at *
  clear ih e2 g1 g2
  generalize qBf l n = r at *
  have p5 := qAO r.kind 5 (by omega) (by omega)
  have p7 := qAO r.b 7 (by omega) (by omega)
  rw [show r.b % ((7 : Nat) : Int) = 3 from h7] at p7
  generalize x1.cs = c1 at *
  generalize x2.cs = c2 at *
  obtain ⟨rk, ra, rb, rt⟩ := r
  unfold Raw.cs at *
  dsimp only at *
  refine qAW Tryd.func41 rfl (by kernel_rfl) mixed (by kernel_rfl) (qle (by kernel_rfl)) Tryd.results41 rfl ?_
  repeat (first | (with_reducible first | apply qAr | apply qAq | apply qAp | apply qAj | apply qAA | apply qAK | apply qBg | apply qBw | apply qBi | apply qAF) | ((first | (with_reducible apply rp) | ((with_reducible apply rpG); eq_refl; exact qAu rfl; (focus repeat' (first | exact trivial | exact id | apply And.intro)); intro zg; have zh := zg; (try simp only [zs1, zs2, zs3, zs4] at zg))); first | ((with_reducible apply qAc); eq_refl; eq_refl; (first | exact (p5) | exact (p7)); eq_refl) | (exact qBk (z := ((d + 1 : Nat) : Int)) rfl rfl (by omega) (by omega) (by omega)) | ((with_reducible apply qAH); (iterate 3 eq_refl); exact (o1)) | ((with_reducible first | apply qAe | apply qAd); (conv => lhs; whnf)) | ((with_reducible first | apply qAU | apply qAg | apply qAi | apply qAC | apply qA0 | apply qBx) <;> first | ((with_reducible apply tyOk); eq_refl) | eq_refl | exact id | decide)) | ((with_reducible apply rp1); ((with_reducible apply qAh); exact tyOk rfl; eq_refl)) | ((with_reducible apply rpN); ((with_reducible apply qAf); exact tyOk rfl; (iterate 5 eq_refl))) | ((with_reducible apply rpL); (refine qAa [] [] (ups := [(1000, .var 83 [.d (qBo l), .d (iD ((n + 1 : Nat))), .d (qBr cols)])]) rfl (n1) rfl (kpX rfl) rfl (insX rfl) (insQ rfl) rfl rfl rfl rfl rfl (insX rfl) rfl rfl); exact qAb _) | ((with_reducible apply rpL); (refine qAa [] [] (ups := [(1000, .var 83 [.d (qBo l), .d (iD ((n2 : Nat))), .d (qBr cols)])]) rfl (i1) rfl (kpX rfl) rfl (insX rfl) (insQ rfl) rfl rfl rfl rfl rfl (insX rfl) rfl rfl); exact qAb _) | ((with_reducible apply rpL); (refine qAa [] [] (ups := [(1000, .var 83 [.d (qBo l), .d (iD ((n3 : Nat))), .d (qBr cols)])]) rfl (i2) rfl (kpX rfl) rfl (insX rfl) (insQ rfl) rfl rfl rfl rfl rfl (insX rfl) rfl rfl); exact qAb _) | ((with_reducible apply qAx); eq_refl; (focus (intro hd; (first | (cases hd; done) | (exfalso; simp at hd; omega)))); (intro hd; clear hd)) | ((with_reducible apply qAx); eq_refl; rotate_left; (focus (intro hd; (first | (cases hd; done) | (exfalso; simp at hd; omega)))); (intro hd; clear hd)))
  (with_reducible apply qA1 (l := [])); (focus (repeat' (first | (with_reducible apply qAJ) | (with_reducible apply qAD) | ((with_reducible apply qAZ); eq_refl; eq_refl; exact tyOk rfl; eq_refl; eq_refl)))); eq_refl; exact SubD.refl _; refine ⟨(by repeat' (first | exact qAX | (refine qAN rfl (by exact SubA.refl _) ?_))), (by repeat' (first | exact trivial | eq_refl | apply And.intro)), rfl, insS rfl, (by repeat' (first | exact trivial | exact qA5 rfl | apply And.intro))⟩
set_option maxHeartbeats 2000000 in
theorem expr_4_4 (l : List Raw) (cols : List Cl) (d n : Nat) (hd : d ≤ 10) (hn : n ≤ 1000000) (h5 : ¬ (qBf l n).kind % 5 = 0) (h7 : (qBf l n).b % 7 = 4)
    (ih : ∀ K n, 1 ≤ K → K ≤ 4 → n + 2 ^ (d + 1) ≤ 1000000 → qBV l cols (d + 1) K n) (hb : n + 2 ^ (d + 2) ≤ 1000000) : qBV l cols (d + 2) 4 n := by
  have n1 := qBR l n cols (by omega)
  have e2 : 2 ^ (d + 2) = 2 ^ (d + 1) + 2 ^ (d + 1) := by rw [Nat.pow_succ]; omega
  obtain ⟨x1, n2, g1, h1, h2, i1⟩ := ih (4) (n + 1) (by omega) (by omega) (by have := Nat.one_le_two_pow (n := d + 1); omega)
  obtain ⟨x2, n3, g2, h3, h4, i2⟩ := ih (4) n2 (by omega) (by omega) (by omega)
  refine ⟨.bi (20) x1 x2, n3, .coal g1 g2, by omega, by omega, ?_⟩
  have o1 := qCH (20) x1 x2
  unfold hpB at *
  clear ih e2 g1 g2
  generalize qBf l n = r at *
  have p5 := qAO r.kind 5 (by omega) (by omega)
  have p7 := qAO r.b 7 (by omega) (by omega)
  rw [show r.b % ((7 : Nat) : Int) = 4 from h7] at p7
  generalize x1.cs = c1 at *
  generalize x2.cs = c2 at *
  obtain ⟨rk, ra, rb, rt⟩ := r
  unfold Raw.cs at *
  dsimp only at *
  refine qAW Tryd.func41 rfl (by kernel_rfl) mixed (by kernel_rfl) (qle (by kernel_rfl)) Tryd.results41 rfl ?_
  repeat (first | (with_reducible first | apply qAr | apply qAq | apply qAp | apply qAj | apply qAA | apply qA4 | apply qAK | apply qBi | apply qAF) | ((first | (with_reducible apply rp) | ((with_reducible apply rpG); eq_refl; exact qAu rfl; (focus repeat' (first | exact trivial | exact id | apply And.intro)); intro zg; have zh := zg; (try simp only [zs1, zs2, zs3, zs4] at zg))); first | ((with_reducible apply qAc); eq_refl; eq_refl; (first | exact (p5) | exact (p7)); eq_refl) | (exact qBk (z := ((d + 1 : Nat) : Int)) rfl rfl (by omega) (by omega) (by omega)) | ((with_reducible apply qAH); (iterate 3 eq_refl); exact (o1)) | ((with_reducible first | apply qAe | apply qAd); (conv => lhs; whnf)) | ((with_reducible first | apply qAU | apply qAg | apply qAi | apply qAC | apply qA0 | apply qBx) <;> first | ((with_reducible apply tyOk); eq_refl) | eq_refl | exact id | decide)) | ((with_reducible apply rp1); ((with_reducible apply qAh); exact tyOk rfl; eq_refl)) | ((with_reducible apply rpN); ((with_reducible apply qAf); exact tyOk rfl; (iterate 5 eq_refl))) | ((with_reducible apply rpL); (refine qAa [] [] (ups := [(1000, .var 83 [.d (qBo l), .d (iD ((n + 1 : Nat))), .d (qBr cols)])]) rfl (n1) rfl (kpX rfl) rfl (insX rfl) (insQ rfl) rfl rfl rfl rfl rfl (insX rfl) rfl rfl); exact qAb _) | ((with_reducible apply rpL); (refine qAa [] [] (ups := [(1000, .var 83 [.d (qBo l), .d (iD ((n2 : Nat))), .d (qBr cols)])]) rfl (i1) rfl (kpX rfl) rfl (insX rfl) (insQ rfl) rfl rfl rfl rfl rfl (insX rfl) rfl rfl); exact qAb _) | ((with_reducible apply rpL); (refine qAa [] [] (ups := [(1000, .var 83 [.d (qBo l), .d (iD ((n3 : Nat))), .d (qBr cols)])]) rfl (i2) rfl (kpX rfl) rfl (insX rfl) (insQ rfl) rfl rfl rfl rfl rfl (insX rfl) rfl rfl); exact qAb _) | ((with_reducible apply qAx); eq_refl; (focus (intro hd; (first | (cases hd; done) | (exfalso; simp at hd; omega)))); (intro hd; clear hd)) | ((with_reducible apply qAx); eq_refl; rotate_left; (focus (intro hd; (first | (cases hd; done) | (exfalso; simp at hd; omega)))); (intro hd; clear hd)))
  (with_reducible apply qA1 (l := [])); (focus (repeat' (first | (with_reducible apply qAJ) | (with_reducible apply qAD) | ((with_reducible apply qAZ); eq_refl; eq_refl; exact tyOk rfl; eq_refl; eq_refl)))); eq_refl; exact SubD.refl _; refine ⟨(by repeat' (first | exact qAX | (refine qAN rfl (by exact SubA.refl _) ?_))), (by repeat' (first | exact trivial | eq_refl | apply And.intro)), rfl, insS rfl, (by repeat' (first | exact trivial | exact qA5 rfl | apply And.intro))⟩
set_option maxHeartbeats 2000000 in
theorem expr_4_5 (l : List Raw) (cols : List Cl) (d n : Nat) (hd : d ≤ 10) (hn : n ≤ 1000000) (h5 : ¬ (qBf l n).kind % 5 = 0) (h7 : (qBf l n).b % 7 = 5)
    (ih : ∀ K n, 1 ≤ K → K ≤ 4 → n + 2 ^ (d + 1) ≤ 1000000 → qBV l cols (d + 1) K n) (hb : n + 2 ^ (d + 2) ≤ 1000000) : qBV l cols (d + 2) 4 n := by
  have n1 := qBR l n cols (by omega)
  have e2 : 2 ^ (d + 2) = 2 ^ (d + 1) + 2 ^ (d + 1) := by rw [Nat.pow_succ]; omega
  obtain ⟨x1, n2, g1, h1, h2, i1⟩ := ih (4) (n + 1) (by omega) (by omega) (by have := Nat.one_le_two_pow (n := d + 1); omega)
  obtain ⟨x2, n3, g2, h3, h4, i2⟩ := ih (4) n2 (by omega) (by omega) (by omega)
  refine ⟨.bi (20) x1 x2, n3, .coal g1 g2, by omega, by omega, ?_⟩
  have o1 := qCH (20) x1 x2
  unfold hpB at *
  clear ih e2 g1 g2
  generalize qBf l n = r at *
  have p5 := qAO r.kind 5 (by omega) (by omega)
  have p7 := qAO r.b 7 (by omega) (by omega)
  rw [show r.b % ((7 : Nat) : Int) = 5 from h7] at p7
  generalize x1.cs = c1 at *
  generalize x2.cs = c2 at *
  obtain ⟨rk, ra, rb, rt⟩ := r
  unfold Raw.cs at *
  dsimp only at *
  refine qAW Tryd.func41 rfl (by kernel_rfl) mixed (by kernel_rfl) (qle (by kernel_rfl)) Tryd.results41 rfl ?_
  repeat (first | (with_reducible first | apply qAr | apply qAq | apply qAp | apply qAj | apply qAA | apply qA4 | apply qAK | apply qBi | apply qAF) | ((first | (with_reducible apply rp) | ((with_reducible apply rpG); eq_refl; exact qAu rfl; (focus repeat' (first | exact trivial | exact id | apply And.intro)); intro zg; have zh := zg; (try simp only [zs1, zs2, zs3, zs4] at zg))); first | ((with_reducible apply qAc); eq_refl; eq_refl; (first | exact (p5) | exact (p7)); eq_refl) | (exact qBk (z := ((d + 1 : Nat) : Int)) rfl rfl (by omega) (by omega) (by omega)) | ((with_reducible apply qAH); (iterate 3 eq_refl); exact (o1)) | ((with_reducible first | apply qAe | apply qAd); (conv => lhs; whnf)) | ((with_reducible first | apply qAU | apply qAg | apply qAi | apply qAC | apply qA0 | apply qBx) <;> first | ((with_reducible apply tyOk); eq_refl) | eq_refl | exact id | decide)) | ((with_reducible apply rp1); ((with_reducible apply qAh); exact tyOk rfl; eq_refl)) | ((with_reducible apply rpN); ((with_reducible apply qAf); exact tyOk rfl; (iterate 5 eq_refl))) | ((with_reducible apply rpL); (refine qAa [] [] (ups := [(1000, .var 83 [.d (qBo l), .d (iD ((n + 1 : Nat))), .d (qBr cols)])]) rfl (n1) rfl (kpX rfl) rfl (insX rfl) (insQ rfl) rfl rfl rfl rfl rfl (insX rfl) rfl rfl); exact qAb _) | ((with_reducible apply rpL); (refine qAa [] [] (ups := [(1000, .var 83 [.d (qBo l), .d (iD ((n2 : Nat))), .d (qBr cols)])]) rfl (i1) rfl (kpX rfl) rfl (insX rfl) (insQ rfl) rfl rfl rfl rfl rfl (insX rfl) rfl rfl); exact qAb _) | ((with_reducible apply rpL); (refine qAa [] [] (ups := [(1000, .var 83 [.d (qBo l), .d (iD ((n3 : Nat))), .d (qBr cols)])]) rfl (i2) rfl (kpX rfl) rfl (insX rfl) (insQ rfl) rfl rfl rfl rfl rfl (insX rfl) rfl rfl); exact qAb _) | ((with_reducible apply qAx); eq_refl; (focus (intro hd; (first | (cases hd; done) | (exfalso; simp at hd; omega)))); (intro hd; clear hd)) | ((with_reducible apply qAx); eq_refl; rotate_left; (focus (intro hd; (first | (cases hd; done) | (exfalso; simp at hd; omega)))); (intro hd; clear hd)))
  (with_reducible apply qA1 (l := [])); (focus (repeat' (first | (with_reducible apply qAJ) | (with_reducible apply qAD) | ((with_reducible apply qAZ); eq_refl; eq_refl; exact tyOk rfl; eq_refl; eq_refl)))); eq_refl; exact SubD.refl _; refine ⟨(by repeat' (first | exact qAX | (refine qAN rfl (by exact SubA.refl _) ?_))), (by repeat' (first | exact trivial | eq_refl | apply And.intro)), rfl, insS rfl, (by repeat' (first | exact trivial | exact qA5 rfl | apply And.intro))⟩
set_option maxHeartbeats 2000000 in
theorem expr_4_6 (l : List Raw) (cols : List Cl) (d n : Nat) (hd : d ≤ 10) (hn : n ≤ 1000000) (h5 : ¬ (qBf l n).kind % 5 = 0) (h7 : (qBf l n).b % 7 = 6)
    (ih : ∀ K n, 1 ≤ K → K ≤ 4 → n + 2 ^ (d + 1) ≤ 1000000 → qBV l cols (d + 1) K n) (hb : n + 2 ^ (d + 2) ≤ 1000000) : qBV l cols (d + 2) 4 n := by
  have n1 := qBR l n cols (by omega)
  have e2 : 2 ^ (d + 2) = 2 ^ (d + 1) + 2 ^ (d + 1) := by rw [Nat.pow_succ]; omega
  obtain ⟨x1, n2, g1, h1, h2, i1⟩ := ih (4) (n + 1) (by omega) (by omega) (by have := Nat.one_le_two_pow (n := d + 1); omega)
  obtain ⟨x2, n3, g2, h3, h4, i2⟩ := ih (4) n2 (by omega) (by omega) (by omega)
  refine ⟨.bi (20) x1 x2, n3, .coal g1 g2, by omega, by omega, ?_⟩
  have o1 := qCH (20) x1 x2
  unfold hpB at *
  clear ih e2 g1 g2
  generalize qBf l n = r at *
  have p5 := qAO r.kind 5 (by omega) (by omega)
  have p7 := qAO r.b 7 (by omega) (by omega)
  rw [show r.b % ((7 : Nat) : Int) = 6 from h7] at p7
  generalize x1.cs = c1 at *
  generalize x2.cs = c2 at *
  obtain ⟨rk, ra, rb, rt⟩ := r
  unfold Raw.cs at *
  dsimp only at *
  refine qAW Tryd.func41 rfl (by kernel_rfl) mixed (by kernel_rfl) (qle (by kernel_rfl)) Tryd.results41 rfl ?_
  repeat (first | (with_reducible first | apply qAr | apply qAq | apply qAp | apply qAj | apply qAA | apply qA4 | apply qAK | apply qBi | apply qAF) | ((first | (with_reducible apply rp) | ((with_reducible apply rpG); eq_refl; exact qAu rfl; (focus repeat' (first | exact trivial | exact id | apply And.intro)); intro zg; have zh := zg; (try simp only [zs1, zs2, zs3, zs4] at zg))); first | ((with_reducible apply qAc); eq_refl; eq_refl; (first | exact (p5) | exact (p7)); eq_refl) | (exact qBk (z := ((d + 1 : Nat) : Int)) rfl rfl (by omega) (by omega) (by omega)) | ((with_reducible apply qAH); (iterate 3 eq_refl); exact (o1)) | ((with_reducible first | apply qAe | apply qAd); (conv => lhs; whnf)) | ((with_reducible first | apply qAU | apply qAg | apply qAi | apply qAC | apply qA0 | apply qBx) <;> first | ((with_reducible apply tyOk); eq_refl) | eq_refl | exact id | decide)) | ((with_reducible apply rp1); ((with_reducible apply qAh); exact tyOk rfl; eq_refl)) | ((with_reducible apply rpN); ((with_reducible apply qAf); exact tyOk rfl; (iterate 5 eq_refl))) | ((with_reducible apply rpL); (refine qAa [] [] (ups := [(1000, .var 83 [.d (qBo l), .d (iD ((n + 1 : Nat))), .d (qBr cols)])]) rfl (n1) rfl (kpX rfl) rfl (insX rfl) (insQ rfl) rfl rfl rfl rfl rfl (insX rfl) rfl rfl); exact qAb _) | ((with_reducible apply rpL); (refine qAa [] [] (ups := [(1000, .var 83 [.d (qBo l), .d (iD ((n2 : Nat))), .d (qBr cols)])]) rfl (i1) rfl (kpX rfl) rfl (insX rfl) (insQ rfl) rfl rfl rfl rfl rfl (insX rfl) rfl rfl); exact qAb _) | ((with_reducible apply rpL); (refine qAa [] [] (ups := [(1000, .var 83 [.d (qBo l), .d (iD ((n3 : Nat))), .d (qBr cols)])]) rfl (i2) rfl (kpX rfl) rfl (insX rfl) (insQ rfl) rfl rfl rfl rfl rfl (insX rfl) rfl rfl); exact qAb _) | ((with_reducible apply qAx); eq_refl; (focus (intro hd; (first | (cases hd; done) | (exfalso; simp at hd; omega)))); (intro hd; clear hd)) | ((with_reducible apply qAx); eq_refl; rotate_left; (focus (intro hd; (first | (cases hd; done) | (exfalso; simp at hd; omega)))); (intro hd; clear hd)))
  (with_reducible apply qA1 (l := [])); (focus (repeat' (first | (with_reducible apply qAJ) | (with_reducible apply qAD) | ((with_reducible apply qAZ); eq_refl; eq_refl; exact tyOk rfl; eq_refl; eq_refl)))); eq_refl; exact SubD.refl _; refine ⟨(by repeat' (first | exact qAX | (refine qAN rfl (by exact SubA.refl _) ?_))), (by repeat' (first | exact trivial | eq_refl | apply And.intro)), rfl, insS rfl, (by repeat' (first | exact trivial | exact qA5 rfl | apply And.intro))⟩
set_option maxHeartbeats 2000000 in
theorem expr_3 (l : List Raw) (cols : List Cl) (d n : Nat) (hd : d ≤ 10) (hn : n ≤ 1000000) (h5 : ¬ (qBf l n).kind % 5 = 0)
    (ih : ∀ K n, 1 ≤ K → K ≤ 4 → n + 2 ^ (d + 1) ≤ 1000000 → qBV l cols (d + 1) K n) (hb : n + 2 ^ (d + 2) ≤ 1000000) : qBV l cols (d + 2) 3 n := by
  have n1 := qBR l n cols (by omega)
  have e2 : 2 ^ (d + 2) = 2 ^ (d + 1) + 2 ^ (d + 1) := by rw [Nat.pow_succ]; omega
  obtain ⟨x1, n2, g1, h1, h2, i1⟩ := ih (3) (n + 1) (by omega) (by omega) (by have := Nat.one_le_two_pow (n := d + 1); omega)
  obtain ⟨x2, n3, g2, h3, h4, i2⟩ := ih (3) n2 (by omega) (by omega) (by omega)
  refine ⟨.bi (20) x1 x2, n3, .coal g1 g2, by omega, by omega, ?_⟩
  have o1 := qCH (20) x1 x2
  unfold hpB at *
  clear ih e2 g1 g2
  generalize qBf l n = r at *
  have p5 := qAO r.kind 5 (by omega) (by omega)
  have p7 := qAO r.b 7 (by omega) (by omega)
  generalize x1.cs = c1 at *
  generalize x2.cs = c2 at *
  obtain ⟨rk, ra, rb, rt⟩ := r
  unfold Raw.cs at *
  dsimp only at *
  refine qAW Tryd.func41 rfl (by kernel_rfl) mixed (by kernel_rfl) (qle (by kernel_rfl)) Tryd.results41 rfl ?_
  repeat (first | (with_reducible first | apply qAr | apply qAq | apply qAp | apply qAj | apply qAA | apply qA4 | apply qAK | apply qBi | apply qAF) | ((first | (with_reducible apply rp) | ((with_reducible apply rpG); eq_refl; exact qAu rfl; (focus repeat' (first | exact trivial | exact id | apply And.intro)); intro zg; have zh := zg; (try simp only [zs1, zs2, zs3, zs4] at zg))); first | ((with_reducible apply qAc); eq_refl; eq_refl; (first | exact (p5) | exact (p7)); eq_refl) | (exact qBk (z := ((d + 1 : Nat) : Int)) rfl rfl (by omega) (by omega) (by omega)) | ((with_reducible apply qAH); (iterate 3 eq_refl); exact (o1)) | ((with_reducible first | apply qAe | apply qAd); (conv => lhs; whnf)) | ((with_reducible first | apply qAU | apply qAg | apply qAi | apply qAC | apply qBx) <;> first | ((with_reducible apply tyOk); eq_refl) | eq_refl | exact id | decide)) | ((with_reducible apply rp1); ((with_reducible apply qAh); exact tyOk rfl; eq_refl)) | ((with_reducible apply rpN); ((with_reducible apply qAf); exact tyOk rfl; (iterate 5 eq_refl))) | ((with_reducible apply rpL); (refine qAa [] [] (ups := [(1000, .var 83 [.d (qBo l), .d (iD ((n + 1 : Nat))), .d (qBr cols)])]) rfl (n1) rfl (kpX rfl) rfl (insX rfl) (insQ rfl) rfl rfl rfl rfl rfl (insX rfl) rfl rfl); exact qAb _) | ((with_reducible apply rpL); (refine qAa [] [] (ups := [(1000, .var 83 [.d (qBo l), .d (iD ((n2 : Nat))), .d (qBr cols)])]) rfl (i1) rfl (kpX rfl) rfl (insX rfl) (insQ rfl) rfl rfl rfl rfl rfl (insX rfl) rfl rfl); exact qAb _) | ((with_reducible apply rpL); (refine qAa [] [] (ups := [(1000, .var 83 [.d (qBo l), .d (iD ((n3 : Nat))), .d (qBr cols)])]) rfl (i2) rfl (kpX rfl) rfl (insX rfl) (insQ rfl) rfl rfl rfl rfl rfl (insX rfl) rfl rfl); exact qAb _) | ((with_reducible apply qAx); eq_refl; (focus (intro hd; (first | (cases hd; done) | (exfalso; simp at hd; omega)))); (intro hd; clear hd)))
  (with_reducible apply qA1 (l := [])); (focus (repeat' (first | (with_reducible apply qAJ) | (with_reducible apply qAD) | ((with_reducible apply qAZ); eq_refl; eq_refl; exact tyOk rfl; eq_refl; eq_refl)))); eq_refl; exact SubD.refl _; refine ⟨(by repeat' (first | exact qAX | (refine qAN rfl (by exact SubA.refl _) ?_))), (by repeat' (first | exact trivial | eq_refl | apply And.intro)), rfl, insS rfl, (by repeat' (first | exact trivial | exact qA5 rfl | apply And.intro))⟩
end Go.Proofs.YtlpnnnmdkglkcaaDoor


/-
  chirographkeep's heap of raw things: expr, heapOf. No condition but the sizes.
-/
namespace Go.Proofs.YtlpnnnmdkglkcaaDoor
open Go.RowKit

theorem expr_pc (l : List Raw) (cols : List Cl) (hcl : cols.length ≤ 1000) : ∀ (d K n : Nat), d ≤ 10 → 1 ≤ K → K ≤ 4 → n + 2 ^ (d + 1) ≤ 1000000 → qBV l cols (d + 1) K n
  | 0, K, n, _, _, hK, hb => expr_leaf1 l cols hcl K hK n (by omega)
  | d + 1, K, n, hd, h1, hK, hb => by
    have ih : ∀ K n, 1 ≤ K → K ≤ 4 → n + 2 ^ (d + 1) ≤ 1000000 → qBV l cols (d + 1) K n := fun K n h1 h2 h3 => expr_pc l cols hcl d K n (by omega) h1 h2 h3
    have hn : n ≤ 1000000 := by have := Nat.one_le_two_pow (n := d + 1 + 1); omega
    by_cases h5 : (qBf l n).kind % 5 = 0
    · exact expr_leaf l cols hcl d K (by omega) hK n hn h5
    · rcases (by omega : K = 1 ∨ K = 2 ∨ K = 3 ∨ K = 4) with rfl | rfl | rfl | rfl
      · rcases (by omega : (qBf l n).b % 7 = 0 ∨ (qBf l n).b % 7 = 1 ∨ (qBf l n).b % 7 = 2 ∨ (qBf l n).b % 7 = 3 ∨ (qBf l n).b % 7 = 4 ∨ (qBf l n).b % 7 = 5 ∨ (qBf l n).b % 7 = 6) with h | h | h | h | h | h | h
        · exact expr_1_0 l cols d n (by omega) hn h5 h ih hb
        · exact expr_1_1 l cols d n (by omega) hn h5 h ih hb
        · exact expr_1_2 l cols d n (by omega) hn h5 h ih hb
        · exact expr_1_3 l cols d n (by omega) hn h5 h ih hb
        · exact expr_1_4 l cols d n (by omega) hn h5 h ih hb
        · exact expr_1_5 l cols d n (by omega) hn h5 h ih hb
        · exact expr_1_6 l cols d n (by omega) hn h5 h ih hb
      · rcases (by omega : (qBf l n).b % 7 = 0 ∨ (qBf l n).b % 7 = 1 ∨ (qBf l n).b % 7 = 2 ∨ (qBf l n).b % 7 = 3 ∨ (qBf l n).b % 7 = 4 ∨ (qBf l n).b % 7 = 5 ∨ (qBf l n).b % 7 = 6) with h | h | h | h | h | h | h
        · exact expr_2_0 l cols d n (by omega) hn h5 h ih hb
        · exact expr_2_1 l cols d n (by omega) hn h5 h ih hb
        · exact expr_2_2 l cols d n (by omega) hn h5 h ih hb
        · exact expr_2_3 l cols d n (by omega) hn h5 h ih hb
        · exact expr_2_4 l cols d n (by omega) hn h5 h ih hb
        · exact expr_2_5 l cols d n (by omega) hn h5 h ih hb
        · exact expr_2_6 l cols d n (by omega) hn h5 h ih hb
      · exact expr_3 l cols d n (by omega) hn h5 ih hb
      · rcases (by omega : (qBf l n).b % 7 = 0 ∨ (qBf l n).b % 7 = 1 ∨ (qBf l n).b % 7 = 2 ∨ (qBf l n).b % 7 = 3 ∨ (qBf l n).b % 7 = 4 ∨ (qBf l n).b % 7 = 5 ∨ (qBf l n).b % 7 = 6) with h | h | h | h | h | h | h
        · exact expr_4_0 l cols d n (by omega) hn h5 h ih hb
        · exact expr_4_1 l cols d n (by omega) hn h5 h ih hb
        · exact expr_4_2 l cols d n (by omega) hn h5 h ih hb
        · exact expr_4_3 l cols d n (by omega) hn h5 h ih hb
        · exact expr_4_4 l cols d n (by omega) hn h5 h ih hb
        · exact expr_4_5 l cols d n (by omega) hn h5 h ih hb
        · exact expr_4_6 l cols d n (by omega) hn h5 h ih hb
end Go.Proofs.YtlpnnnmdkglkcaaDoor

