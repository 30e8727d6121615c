/-
  chirograph/table: column, sets, changed of one set of the first column; keys where a key comes twice. Contracts.
-/
import Derived.Test.YtpaccaojgbfjdaaDoorZW
import Derived.Test.YtpaccaojgbfjdaaDoorZT
import Derived.Test.YtpaccaojgbfjdaaDoorZC
import Derived.Test.YtpaccaojgbfjdaaDoorZK
set_option linter.unusedSimpArgs false
set_option linter.unusedVariables false
namespace Go.Proofs.YtpaccaojgbfjdaaDoor
open Go.RowKit

theorem column0_pc (n : ByteArray) (l : List Cl) (hl : l.length ≤ 1000) : PC Tryd.prog 81 [qAW (⟨n, 2, false⟩ :: l), strD n] (iD 0) := by
  refine qAs Tryd.func81 rfl (by kernel_rfl) mixed (by kernel_rfl) (qle (by kernel_rfl)) Tryd.results81 ?_
  repeat (first | (with_reducible first | apply qAj | apply qAi | apply qAh | apply qAf | apply qAo) | ((with_reducible apply rp); first | ((with_reducible apply qAd); (conv => lhs; whnf)) | ((with_reducible apply qAa); (conv => lhs; whnf)) | ((with_reducible apply qA7); exact tyOk rfl; eq_refl; eq_refl)))
  refine qBf (fun m s => m = 0 ∧ s = ⟨[(1, .d (strD n)), (7, .d (qAW (⟨n, 2, false⟩ :: l))), (8, .d (iD ((⟨n, 2, false⟩ :: l : List Cl).map Cl.cs).length)), (9, .d (iD 0))], []⟩) _ _ ?_ ⟨rfl, rfl⟩ ?_
  · refine qAw [] (by repeat' (first | exact qAG | (refine qAx rfl (by (first | exact SubA.refl _ | exact subA_i (by (simp; done)))) ?_))) (kpX rfl) rfl (insS rfl) (insX rfl)
  · rintro m s ⟨rfl, rfl⟩
    repeat (first | (with_reducible first | apply qAj | apply qAi | apply qAh | apply qAf) | ((with_reducible apply rp); ((with_reducible apply qAN); eq_refl; eq_refl)))
    refine qAn rfl (fun _ => ?_) (fun hd => ?_)
    · have hg : ((⟨n, 2, false⟩ :: l : List Cl).map Cl.cs)[0]? = some [strD n, iD 2, bD false] := rfl
      repeat (first | (with_reducible first | apply qAj | apply qAi | apply qAh | apply qAf | apply qAo | apply qAm) | ((with_reducible apply rp); first | ((with_reducible apply qAd); (conv => lhs; whnf)) | ((with_reducible apply qAa); (conv => lhs; whnf)) | ((with_reducible apply qAc); exact tyOk rfl; eq_refl; eq_refl; decide; eq_refl) | ((with_reducible apply qAe); exact tyOk rfl; (iterate 4 eq_refl)) | ((with_reducible apply qAE); exact tyOk rfl; eq_refl; eq_refl; assumption; eq_refl) | ((with_reducible apply qAH); exact tyOk rfl; eq_refl; exact tyOk rfl; (iterate 4 eq_refl); (dsimp only; simp only [List.length_map, List.length_append, List.length_cons, List.length_nil] at *; omega)) | ((with_reducible apply qDV); eq_refl; eq_refl)) | ((with_reducible apply rp1); ((with_reducible apply qAk); exact tyOk rfl; eq_refl)) | ((with_reducible apply rpN); ((with_reducible apply qAb); exact tyOk rfl; (iterate 5 eq_refl))))
      refine qAn rfl (fun _ => ?_) (fun hd => ?_)
      · repeat (first | (with_reducible first | apply qAj | apply qAi | apply qAh | apply qAf | apply qAu | apply qAS | apply qBc | apply qAz) | ((with_reducible apply rp); first | ((with_reducible apply qAd); (conv => lhs; whnf)) | ((with_reducible apply qAa); (conv => lhs; whnf))))
        (with_reducible apply qAA); (focus (repeat' (first | (with_reducible apply qAv) | (with_reducible apply qAq) | ((with_reducible apply qAD); eq_refl)))); eq_refl; refine SubD.of_eq ?_
        rfl
      · exfalso
        simp at hd
    · exfalso
      simp at hd
theorem sets0_pc (n : ByteArray) (l : List Cl) (hl : l.length ≤ 1000) (e0 e1 e2 e3 e4 e5 e6 : D) (nb : Bool) (ko : PC Tryd.prog 80 [.ag [e0, e1, e2, e3, e4, e5, e6], qAW (⟨n, 2, false⟩ :: l)] (.tu [iD 2, bD nb, iD 0])) :
    PC Tryd.prog 55 [.sl 8 [[strD n, e0, e1, e2, e3, e4, e5, e6]], qAW (⟨n, 2, false⟩ :: l)] (iD 0) := by
  have c1 := column0_pc n l hl
  have hg : ((⟨n, 2, false⟩ :: l : List Cl).map Cl.cs)[0]? = some [strD n, iD 2, bD false] := rfl
  have hs : [[strD n, e0, e1, e2, e3, e4, e5, e6]][0]? = some [strD n, e0, e1, e2, e3, e4, e5, e6] := rfl
  refine qAs Tryd.func55 rfl (by kernel_rfl) mixed (by kernel_rfl) (qle (by kernel_rfl)) Tryd.results55 ?_
  repeat (first | (with_reducible first | apply qAj | apply qAi | apply qAh | apply qAf | apply qAo | apply qAm) | ((first | (with_reducible apply rp) | ((with_reducible apply rpG); eq_refl; exact qAP rfl; (focus repeat' (first | exact trivial | exact id | apply And.intro)); intro zg; have zh := zg; (try simp only [zs1, zs2, zs3, zs4] at zg))); first | ((with_reducible first | apply qAd | apply qAa); (conv => lhs; whnf)) | ((with_reducible first | apply qAJ | apply qAN | apply qBH | apply qBw) <;> first | ((with_reducible apply tyOk); eq_refl) | eq_refl | exact id)) | ((with_reducible apply qA6); eq_refl; eq_refl))
  refine qBf (fun m s => ∃ k, k ≤ 1 ∧ m = 1 - k ∧ s = ⟨[(0, .d (.sl 8 [[strD n, e0, e1, e2, e3, e4, e5, e6]])), (1, .d (qAW (⟨n, 2, false⟩ :: l))), (21, .d (.sl 8 [[strD n, e0, e1, e2, e3, e4, e5, e6]])), (22, .d (iD 1)), (23, .d (iD k))], []⟩) _ _ ?_ ⟨0, by omega, rfl, rfl⟩ ?_
  · refine qAw [] (by repeat' (first | exact qAG | (refine qAx rfl (by exact SubA.refl _) ?_))) (kpX rfl) rfl (insS rfl) (insX rfl)
  · rintro m s ⟨k, hk, rfl, rfl⟩
    rcases (by omega : k = 0 ∨ k = 1) with rfl | rfl
    · repeat (first | (with_reducible first | apply qAj | apply qAi | apply qAh | apply qAf | apply qAo | apply qAm) | ((with_reducible apply rp); first | ((with_reducible apply qAg); eq_refl; eq_refl; exact (c1); eq_refl) | ((with_reducible apply qAd); (conv => lhs; whnf)) | ((with_reducible apply qAa); (conv => lhs; whnf)) | ((with_reducible apply qAc); exact tyOk rfl; eq_refl; eq_refl; decide; eq_refl) | ((with_reducible apply qAe); exact tyOk rfl; (iterate 4 eq_refl)) | ((with_reducible apply qAE); exact tyOk rfl; eq_refl; eq_refl; assumption; eq_refl) | ((with_reducible apply qAH); exact tyOk rfl; eq_refl; exact tyOk rfl; (iterate 4 eq_refl); (first | omega | (simp only [List.length_map, List.length_append, List.length_cons, List.length_nil] at *; omega))) | ((with_reducible apply qAN); eq_refl; eq_refl) | ((with_reducible apply qBw); exact tyOk rfl; eq_refl; eq_refl) | ((with_reducible apply qEK); exact tyOk rfl; eq_refl; exact tyOk rfl; eq_refl; eq_refl; (first | eq_refl | exact ⟨_, _, rfl, rfl⟩); (first | eq_refl | exact ⟨_, _, rfl, rfl⟩); (first | omega | (simp only [List.length_map, List.length_append, List.length_cons, List.length_nil] at *; omega)); (first | omega | (simp only [List.length_map, List.length_append, List.length_cons, List.length_nil] at *; omega)))) | ((with_reducible apply rp1); ((with_reducible apply qAk); exact tyOk rfl; eq_refl)) | ((with_reducible apply rpN); ((with_reducible apply qAb); exact tyOk rfl; (iterate 5 eq_refl))) | ((with_reducible apply qA6); eq_refl; eq_refl) | ((with_reducible apply qBq); eq_refl; eq_refl))
      refine qBf (fun m s => m = 0 ∧ s = ⟨[(0, .d (.sl 8 [[strD n, e0, e1, e2, e3, e4, e5, e6]])), (1, .d (qAW (⟨n, 2, false⟩ :: l))), (6, .px 6 0), (7, .d (iD 0)), (21, .d (.sl 8 [[strD n, e0, e1, e2, e3, e4, e5, e6]])), (22, .d (iD 1)), (23, .d (iD 0)), (37, .d (iD 0)), (38, .d (iD 0))], [(6, .var 80 [.d (strD n), .d e0, .d e1, .d e2, .d e3, .d e4, .d e5, .d e6])]⟩) _ _ ?_ ⟨rfl, rfl⟩ ?_
      · refine qAw [] (by repeat' (first | exact qAG | (refine qAx rfl (by exact SubA.refl _) ?_))) (kpX rfl) rfl (insS rfl) (insX rfl)
      · rintro m s ⟨rfl, rfl⟩
        repeat (first | (with_reducible first | apply qAj | apply qAi | apply qAh | apply qAf | apply qA5 | apply qA9 | apply qA8 | apply qAF | apply qAm) | ((first | (with_reducible apply rp) | ((with_reducible apply rpG); eq_refl; exact qAT rfl; (focus repeat' (first | exact trivial | exact id | apply And.intro)); intro zg; have zh := zg; (try simp only [zs1, zs2, zs3, zs4] at zg))); first | ((with_reducible apply qAg); eq_refl; eq_refl; exact (ko); eq_refl) | ((with_reducible first | apply qAd | apply qAa); (conv => lhs; whnf)) | ((with_reducible first | apply qAM | apply qAc | apply qAU | apply qAN | apply qAt) <;> first | ((with_reducible apply tyOk); eq_refl) | eq_refl | exact id | decide) | ((with_reducible apply qBp); exact tyOk rfl; eq_refl; eq_refl; assumption; eq_refl) | ((with_reducible apply qAl); exact tyOk rfl; (iterate 3 eq_refl); exact qle rfl; eq_refl) | ((with_reducible apply qAH); exact tyOk rfl; eq_refl; exact tyOk rfl; (iterate 4 eq_refl); (dsimp only; simp only [List.length_map, List.length_append, List.length_cons, List.length_nil] at *; omega)) | ((with_reducible apply qAI); eq_refl; eq_refl; omega; omega)) | ((with_reducible apply qA6); eq_refl; eq_refl))
        refine ⟨_, _, ?_, ?_, 1, by omega, rfl, rfl⟩
        · omega
        · refine qAw [] (by repeat' (first | exact qAG | (refine qAx rfl (by exact SubA.refl _) ?_))) (kpX rfl) rfl (insS rfl) (insX rfl)
    · repeat (first | (with_reducible first | apply qAj | apply qAi | apply qAh | apply qAf | apply qA5 | apply qA9 | apply qA8 | apply qAu | apply qAz) | ((with_reducible apply rp); first | ((with_reducible apply qAa); (conv => lhs; whnf)) | ((with_reducible apply qAN); eq_refl; eq_refl)) | ((with_reducible apply qA6); eq_refl; eq_refl))
      (with_reducible apply qAA); (focus (repeat' (first | (with_reducible apply qAv) | (with_reducible apply qAq) | ((with_reducible apply qAD); eq_refl)))); eq_refl; refine SubD.of_eq ?_
      rfl
theorem trow_pco (r : List Vl) (hr : r.length ≤ 1000000) : PCO Tryd.prog 41 [qBx r] 55 4 (r.map Vl.cs) [] := by
  refine pco_of_aw Tryd.func41 rfl (by kernel_rfl) mixed (by kernel_rfl) (qle (by kernel_rfl)) Tryd.results41 ?_
  repeat (first | (with_reducible first | apply qAj | apply qAi | apply qAh | apply qAf | apply qAu | apply oe_ret) | ((with_reducible apply rp); first | ((with_reducible apply qAd); (conv => lhs; whnf)) | ((with_reducible apply qAa); (conv => lhs; whnf))) | ((with_reducible apply rp1); ((with_reducible apply qA2); exact tyOk rfl; eq_refl; exact tyOk rfl; eq_refl; eq_refl; (focus repeat' (first | exact trivial | refine And.intro rfl (And.intro rfl ?_))); decide; decide; eq_refl)) | ((with_reducible apply rp2); ((with_reducible apply qBm); exact tyOk rfl; eq_refl; exact tyOk rfl; (iterate 3 eq_refl); decide; (first | (dsimp only; simp only [List.length_map, List.length_append, List.length_cons, List.length_nil] at *; omega) | (simp only [List.length_map, List.length_append, List.length_cons, List.length_nil] at *; omega)); (first | (dsimp only; simp only [List.length_map, List.length_append, List.length_cons, List.length_nil] at *; omega) | (simp only [List.length_map, List.length_append, List.length_cons, List.length_nil] at *; omega)); eq_refl)))
  (with_reducible apply reto_ok); (focus (repeat' (first | (with_reducible apply qAv) | (with_reducible apply qAq) | ((with_reducible apply qAD); eq_refl)))); (iterate 3 eq_refl)
  exact List.nil_append _
set_option maxHeartbeats 1000000 in
theorem changed0_pc (n : ByteArray) (l : List Cl) (hl : l.length ≤ 1000) (e0 e1 e2 e3 e4 e5 e6 : D) (k z : Int) (r : List Vl) (hr : r.length ≤ 1000)
    (ev : PC Tryd.prog 24 [.ag [e0, e1, e2, e3, e4, e5, e6], qAW (⟨n, 2, false⟩ :: l), qBx (numV k :: r)] (.tu [.ag (numV z).cs, iD 0])) :
    PC Tryd.prog 56 [qBx (numV k :: r), qAW (⟨n, 2, false⟩ :: l), .sl 8 [[strD n, e0, e1, e2, e3, e4, e5, e6]]] (.tu [qBx (numV z :: r), iD 0]) := by
  have c1 := column0_pc n l hl
  have r1 := trow_pco (numV k :: r) (by rw [List.length_cons]; omega)
  have hs : [[strD n, e0, e1, e2, e3, e4, e5, e6]][0]? = some [strD n, e0, e1, e2, e3, e4, e5, e6] := rfl
  have hrow : (numV k :: r).map Vl.cs = [iD 2, iD k, qD 0, strD .empty] :: r.map Vl.cs := rfl
  have hz : (numV z).cs = [iD 2, iD z, qD 0, strD .empty] := rfl
  rw [hz] at ev
  rw [hrow] at r1
  generalize hrr : r.map Vl.cs = rr at *
  have hlr : rr.length ≤ 1000 := by rw [← hrr, List.length_map]; exact hr
  refine qAs Tryd.func56 rfl (by kernel_rfl) mixed (by kernel_rfl) (qle (by kernel_rfl)) Tryd.results56 ?_
  repeat (first | (with_reducible first | apply qAj | apply qAi | apply qAh | apply qAf | apply qAo) | ((with_reducible apply rp); first | ((with_reducible apply qAd); (conv => lhs; whnf)) | ((with_reducible apply qAa); (conv => lhs; whnf)) | ((with_reducible apply qBw); exact tyOk rfl; eq_refl; eq_refl)) | ((with_reducible apply rp1); ((with_reducible apply does_callO'); (iterate 3 eq_refl); exact (r1); (first | eq_refl | (simp; done) | (simp; omega)); eq_refl; (conv => lhs; whnf))))
  refine qBf (fun m s => ∃ k', k' ≤ 1 ∧ m = 1 - k' ∧ s = ⟨[(0, .d (qBx (numV k :: r))), (1, .d (qAW (⟨n, 2, false⟩ :: l))), (8, .ow 8 (rr.length + 1)), (16, .d (.sl 8 [[strD n, e0, e1, e2, e3, e4, e5, e6]])), (17, .d (iD 1)), (18, .d (iD k'))], [(8, .row 55 4 ([iD 2, iD (if k' = 0 then k else z), qD 0, strD .empty] :: rr))]⟩) _ _ ?_ ⟨0, by omega, rfl, rfl⟩ ?_
  · refine qAw [(8, 15)] (by repeat' (first | exact qAG | (refine qAx rfl (by exact SubA.refl _) ?_))) (kpX rfl) rfl (insS rfl) (insX rfl)
  · rintro m s ⟨k', hk, rfl, rfl⟩
    rcases (by omega : k' = 0 ∨ k' = 1) with rfl | rfl
    · have hgr : ([iD 2, iD (if 0 = 0 then k else z), qD 0, strD .empty] :: rr)[0]? = some [iD 2, iD k, qD 0, strD .empty] := rfl
      repeat (first | (with_reducible first | apply qAj | apply qAi | apply qAh | apply qAf | apply qAo | apply qAF | apply qAm) | ((first | (with_reducible apply rp) | ((with_reducible apply rpG); eq_refl; exact qAT rfl; (focus repeat' (first | exact trivial | exact id | apply And.intro)); intro zg; have zh := zg; (try simp only [zs1, zs2, zs3, zs4] at zg))); first | ((with_reducible apply qAg); eq_refl; eq_refl; (first | exact (c1) | exact (ev)); eq_refl) | ((with_reducible first | apply qAd | apply qAa); (conv => lhs; whnf)) | ((with_reducible first | apply qAM | apply qAc | apply qAe | apply qAr | apply qAU | apply qAN | apply qAZ | apply qAt) <;> first | ((with_reducible apply tyOk); eq_refl) | eq_refl | exact id | decide) | ((with_reducible apply qBp); exact tyOk rfl; eq_refl; eq_refl; (first | assumption | eq_refl); eq_refl) | ((with_reducible apply qAl); exact tyOk rfl; (iterate 3 eq_refl); exact qle rfl; eq_refl) | ((with_reducible apply qAE); exact tyOk rfl; eq_refl; eq_refl; (first | assumption | eq_refl); eq_refl) | ((with_reducible apply qAH); exact tyOk rfl; eq_refl; exact tyOk rfl; (iterate 4 eq_refl); (first | omega | (dsimp only; omega) | (simp only [List.length_map, List.length_append, List.length_cons, List.length_nil] at *; omega))) | ((with_reducible apply qBy); exact tyOk rfl; eq_refl; exact tyOk rfl; (iterate 3 eq_refl); (first | omega | (dsimp only; omega) | (simp only [List.length_map, List.length_append, List.length_cons, List.length_nil] at *; omega))) | ((with_reducible apply qAI); eq_refl; eq_refl; omega; omega)) | ((with_reducible apply rp1); ((with_reducible apply qAk); exact tyOk rfl; eq_refl)) | ((with_reducible apply rpN); first | ((with_reducible apply qAb); exact tyOk rfl; (iterate 5 eq_refl)) | ((with_reducible apply qDa); exact tyOk rfl; (iterate 4 eq_refl); (first | assumption | eq_refl); eq_refl; exact qle rfl)) | ((with_reducible apply qA6); eq_refl; eq_refl) | ((with_reducible apply qBq); eq_refl; eq_refl))
      refine ⟨_, _, ?_, ?_, 1, by omega, rfl, rfl⟩
      · omega
      · refine qAw [] (by repeat' (first | exact qAG | (refine qAx rfl (by exact SubA.refl _) ?_))) (kpX rfl) rfl (insS rfl) (insX rfl)
    · repeat (first | (with_reducible first | apply qAj | apply qAi | apply qAh | apply qAf | apply qA5 | apply qA9 | apply qA8 | apply qAu | apply qAz) | ((with_reducible apply rp); first | ((with_reducible apply qAd); (conv => lhs; whnf)) | ((with_reducible apply qAa); (conv => lhs; whnf)) | ((with_reducible apply qAN); eq_refl; eq_refl)) | ((with_reducible apply qA6); eq_refl; eq_refl))
      (with_reducible apply qAA); (focus (repeat' (first | (with_reducible apply qAv) | (with_reducible apply qAq) | ((with_reducible apply qAD); eq_refl)))); eq_refl; refine SubD.of_eq ?_
      show D.tu [.sl 4 _, iD 0] = .tu [qBx (numV z :: r), iD 0]
      rw [← hrr]
      rfl
def dupP (c b : Ce) : Prop := c.full = true ∧ b.full = true ∧ keyN b.row = keyN c.row
theorem not_apart {d : List Ce} (h : ¬ Apart d) : ∃ (j k : Nat) (b c : Ce), j < k ∧ d[j]? = some b ∧ d[k]? = some c ∧ dupP c b := by
  refine Classical.byContradiction fun hn => h (List.pairwise_iff_getElem.2 fun j k hj hk hjk hf hg he => hn ⟨j, k, d[j], d[k], hjk, List.getElem?_eq_getElem hj, List.getElem?_eq_getElem hk, hg, hf, he⟩)
set_option maxHeartbeats 4000000 in
theorem keys_dup (cols : List Cl) (hk : ∃ n l, cols = ⟨n, 2, false⟩ :: l) (d : List Ce) (h4 : d.length = 4) (hok : ∀ c ∈ d, CeOk cols c) (ha : ¬ Apart d) : PC Tryd.prog 44 [.ag (d.flatMap Ce.cs)] (iD 8) := by
  obtain ⟨j0, k0, b0, c0, hjk0, hb0, hc0, hd0⟩ := not_apart ha
  have hk04 : k0 < 4 := by have := (List.getElem?_eq_some_iff.1 hc0).1; omega
  refine qAs Tryd.func44 rfl (by kernel_rfl) mixed (by kernel_rfl) (qle (by kernel_rfl)) Tryd.results44 ?_
  repeat (first | (with_reducible first | apply qAj | apply qAi | apply qAh | apply qAf | apply qAo) | ((with_reducible apply rp); first | (exact qB2 (tyOk rfl) rfl rfl rfl rfl h4) | ((with_reducible apply qAd); (conv => lhs; whnf)) | ((with_reducible apply qAa); (conv => lhs; whnf))) | ((with_reducible apply rp1); ((with_reducible apply qAp); eq_refl; eq_refl)))
  refine qBf (fun m s => ∃ k, k ≤ k0 ∧ m = 4 - k ∧ s = ⟨[(1, .px 1 0), (7, .d (.ag (d.flatMap Ce.cs))), (8, .d (iD k))], [(1, .var 27 ((d.flatMap Ce.cs).map .d))]⟩) _ _ ?_ ⟨0, by omega, rfl, rfl⟩ ?_
  · refine qAw [] (by repeat' (first | exact qAG | (refine qAx rfl (by exact SubA.refl _) ?_))) (by repeat' (first | exact trivial | exact kb_d rfl | apply And.intro)) rfl (insS rfl) (by repeat' (first | exact trivial | exact qA0 _ | exact qAX rfl | apply And.intro))
  · rintro m s ⟨k, hkk0, rfl, rfl⟩
    have hk4 : k < 4 := by omega
    repeat (first | (with_reducible first | apply qAj | apply qAi | apply qAh | apply qAf) | ((with_reducible apply rp); ((with_reducible apply qAN); eq_refl; eq_refl)))
    refine qAn rfl (fun hd => ?_) (fun hd => ?_)
    · have hlt : k < 4 := by simp at hd; omega
      clear hd
      obtain ⟨c, hc⟩ : ∃ c, d[k]? = some c := ⟨_, List.getElem?_eq_getElem (by omega)⟩
      have hco := hok c (List.mem_of_getElem? hc)
      repeat (first | (with_reducible first | apply qAj | apply qAi | apply qAh | apply qAf | apply qAo | apply qAm) | ((with_reducible apply rp); first | (exact qBl (d := d) (c := c) (tyOk rfl) rfl (tyOk rfl) rfl rfl rfl rfl rfl h4 hc) | (exact qCc (h := k) (tyOk rfl) rfl (by decide) rfl ⟨_, _, rfl, rfl⟩ (by omega)) | (exact qCu (tyOk rfl) rfl rfl) | ((with_reducible apply qAd); (conv => lhs; whnf)) | ((with_reducible apply qAa); (conv => lhs; whnf))) | ((with_reducible apply rp1); ((with_reducible apply qAk); exact tyOk rfl; eq_refl)) | ((with_reducible apply rpN); ((with_reducible apply qAb); exact tyOk rfl; (iterate 5 eq_refl))))
      refine qBf (fun m s => ∃ j, j ≤ k ∧ (k = k0 → j ≤ j0) ∧ m = k - j ∧ s = ⟨[(1, .px 1 0), (4, .px 4 0), (7, .d (.ag (d.flatMap Ce.cs))), (8, .d (iD k)), (13, .sx 1 k 4), (14, .d (iD k)), (15, .d (iD j))], [(1, .var 27 ((d.flatMap Ce.cs).map .d)), (4, .var 26 [.d (bD c.full), .d (qBx c.row)])]⟩) _ _ ?_ ⟨0, by omega, fun _ => by omega, rfl, rfl⟩ ?_
      · refine qAw [] (by repeat' (first | exact qAG | (refine qAx rfl (by exact SubA.refl _) ?_))) (by repeat' (first | exact trivial | eq_refl | exact kb_d rfl | apply And.intro)) rfl (insS rfl) (by repeat' (first | exact trivial | exact qA0 _ | exact qAX rfl | exact qEU rfl | apply And.intro))
      · rintro m s ⟨j, hj, hjj0, rfl, rfl⟩
        repeat (first | (with_reducible first | apply qAj | apply qAi | apply qAh | apply qAf) | ((with_reducible apply rp); ((with_reducible apply qAN); eq_refl; eq_refl)))
        refine qAn rfl (fun hd => ?_) (fun hd => ?_)
        · have hjk : j < k := by simp at hd; omega
          clear hd
          obtain ⟨b, hb⟩ : ∃ b, d[j]? = some b := ⟨_, List.getElem?_eq_getElem (by omega)⟩
          have hbo := hok b (List.mem_of_getElem? hb)
          have hcase : (¬ dupP c b ∧ (c.full = false ∨ b.full = false)) ∨ (∃ kc lc kb lb, c = ⟨true, numV kc :: lc⟩ ∧ b = ⟨true, numV kb :: lb⟩) := by
            by_cases hcf : c.full = true
            · by_cases hbf : b.full = true
              · right
                obtain ⟨kc, lc, ec⟩ := qCm (hco.fit hcf) hk
                obtain ⟨kb, lb, eb⟩ := qCm (hbo.fit hbf) hk
                refine ⟨kc, lc, kb, lb, ?_, ?_⟩
                · cases c; simp_all
                · cases b; simp_all
              · exact .inl ⟨fun h => hbf h.2.1, .inr (eq_false_of_ne_true hbf)⟩
            · exact .inl ⟨fun h => hcf h.1, .inl (eq_false_of_ne_true hcf)⟩
          have hnext : ¬ dupP c b → (k = k0 → j + 1 ≤ j0) := fun hn hke => by
            have h1 := hjj0 hke
            by_cases h2 : j = j0
            · exfalso
              subst h2
              subst hke
              rw [hb0] at hb
              rw [hc0] at hc
              injection hb with hb
              injection hc with hc
              subst hb hc
              exact hn hd0
            · omega
          rcases hcase with ⟨hnd, hf | hf⟩ | ⟨kc, lc, kb, lb, ec, eb⟩
          · have hnx := hnext hnd
            obtain ⟨cf, cr⟩ := c
            dsimp only at hf
            subst hf
            clear hnext hnd
            have hff : (({ full := false, row := cr } : Ce).full && b.full) = false := rfl
            repeat (first | (with_reducible first | apply qAj | apply qAi | apply qAh | apply qAf | apply qA4 | apply qAo | apply qAm) | ((with_reducible apply qBg); (first | kernel_rfl | eq_refl)) | ((first | (with_reducible first | apply rp | apply dr) | ((with_reducible apply drG); eq_refl; exact qAT rfl; (focus repeat' (first | exact trivial | exact id | apply And.intro)); intro zg; have zh := zg; (try simp only [zs1, zs2, zs3, zs4] at zg))); first | (exact qBz (i := j) (tyOk rfl) rfl (tyOk rfl) rfl rfl rfl (by omega) rfl) | (exact qB6 (j := j) (d := d) (c := b) (tyOk rfl) rfl rfl rfl rfl hb) | ((with_reducible apply qAd); (conv => lhs; whnf)) | ((with_reducible first | apply qAM | apply qAc | apply qAe) <;> first | ((with_reducible apply tyOk); eq_refl) | eq_refl | exact id | decide) | ((with_reducible apply qB8); eq_refl; (first | assumption | decide); (conv => lhs; whnf))) | ((with_reducible apply rp1); ((with_reducible apply qAk); exact tyOk rfl; eq_refl)) | ((with_reducible apply rpN); ((with_reducible apply qAb); exact tyOk rfl; (iterate 5 eq_refl))) | ((first | (with_reducible apply rpGF) | (with_reducible apply drGF)); eq_refl; exact qAT rfl; (first | assumption | decide | eq_refl); (focus repeat' (first | exact trivial | exact id | apply And.intro))))
            refine qAn rfl (fun hd => absurd hd (by decide)) (fun _ => ?_)
            repeat (first | (with_reducible first | apply qAi | apply qAh | apply qAf | apply qAF | apply qAm) | ((with_reducible apply rp); first | ((with_reducible apply qAd); (conv => lhs; whnf)) | ((with_reducible apply qAI); eq_refl; eq_refl; omega; omega)))
            refine ⟨_, _, ?_, ?_, j + 1, by omega, hnx, rfl, rfl⟩
            · omega
            · refine qAw [] (by repeat' (first | exact qAG | (refine qAx rfl (by exact SubA.refl _) ?_))) (by repeat' (first | exact trivial | eq_refl | exact kb_d rfl | apply And.intro)) rfl (insS rfl) (by repeat' (first | exact trivial | exact qA0 _ | exact qAX rfl | exact qEU rfl | apply And.intro))
          · have hnx := hnext hnd
            obtain ⟨cf, cr⟩ := c
            obtain ⟨bf, br⟩ := b
            dsimp only at hf
            subst hf
            clear hnext hnd
            have hff : (cf && false) = false := by cases cf <;> rfl
            repeat (first | (with_reducible first | apply qAj | apply qAi | apply qAh | apply qAf | apply qA4 | apply qAo | apply qAm) | ((with_reducible apply qBg); (first | kernel_rfl | eq_refl)) | ((first | (with_reducible first | apply rp | apply dr) | ((with_reducible apply drG); eq_refl; exact qAT rfl; (focus repeat' (first | exact trivial | exact id | apply And.intro)); intro zg; have zh := zg; (try simp only [zs1, zs2, zs3, zs4] at zg))); first | (exact qBz (i := j) (tyOk rfl) rfl (tyOk rfl) rfl rfl rfl (by omega) rfl) | (exact qB6 (j := j) (d := d) (c := ⟨false, br⟩) (tyOk rfl) rfl rfl rfl rfl hb) | ((with_reducible apply qAd); (conv => lhs; whnf)) | ((with_reducible first | apply qAM | apply qAc | apply qAe) <;> first | ((with_reducible apply tyOk); eq_refl) | eq_refl | exact id | decide) | ((with_reducible apply qB8); eq_refl; (first | assumption | decide); (conv => lhs; whnf))) | ((with_reducible apply rp1); ((with_reducible apply qAk); exact tyOk rfl; eq_refl)) | ((with_reducible apply rpN); ((with_reducible apply qAb); exact tyOk rfl; (iterate 5 eq_refl))) | ((first | (with_reducible apply rpGF) | (with_reducible apply drGF)); eq_refl; exact qAT rfl; (first | assumption | decide | eq_refl); (focus repeat' (first | exact trivial | exact id | apply And.intro))))
            refine qAn rfl (fun hd => absurd hd (by decide)) (fun _ => ?_)
            repeat (first | (with_reducible first | apply qAi | apply qAh | apply qAf | apply qAF | apply qAm) | ((with_reducible apply rp); first | ((with_reducible apply qAd); (conv => lhs; whnf)) | ((with_reducible apply qAI); eq_refl; eq_refl; omega; omega)))
            refine ⟨_, _, ?_, ?_, j + 1, by omega, hnx, rfl, rfl⟩
            · omega
            · refine qAw [] (by repeat' (first | exact qAG | (refine qAx rfl (by exact SubA.refl _) ?_))) (by repeat' (first | exact trivial | eq_refl | exact kb_d rfl | apply And.intro)) rfl (insS rfl) (by repeat' (first | exact trivial | exact qA0 _ | exact qAX rfl | exact qEU rfl | apply And.intro))
          · subst ec eb
            have hgc : ((numV kc :: lc).map Vl.cs)[0]? = some [iD 2, iD kc, qD 0, strD .empty] := rfl
            have hgb : ((numV kb :: lb).map Vl.cs)[0]? = some [iD 2, iD kb, qD 0, strD .empty] := rfl
            by_cases hkk : kb = kc
            · subst hkk
              clear hnext
              repeat (first | (with_reducible first | apply qAj | apply qAi | apply qAh | apply qAf | apply qA4 | apply qAo | apply qAm) | ((with_reducible apply qBg); (first | kernel_rfl | eq_refl)) | ((first | (with_reducible first | apply rp | apply dr) | ((with_reducible apply drG); eq_refl; exact qAT rfl; (focus repeat' (first | exact trivial | exact id | apply And.intro)); intro zg; have zh := zg; (try simp only [zs1, zs2, zs3, zs4] at zg))); first | (exact qBz (i := j) (tyOk rfl) rfl (tyOk rfl) rfl rfl rfl (by omega) rfl) | (exact qB6 (j := j) (d := d) (c := ⟨true, numV kb :: lb⟩) (tyOk rfl) rfl rfl rfl rfl hb) | ((with_reducible apply qAd); (conv => lhs; whnf)) | ((with_reducible first | apply qAM | apply qAc | apply qAe | apply qCk) <;> first | ((with_reducible apply tyOk); eq_refl) | ((with_reducible apply tgOk); eq_refl) | eq_refl | exact id | decide) | ((with_reducible apply qAE); exact tyOk rfl; eq_refl; eq_refl; assumption; eq_refl) | ((with_reducible apply qAH); exact tyOk rfl; eq_refl; exact tyOk rfl; (iterate 4 eq_refl); (dsimp only; simp only [List.length_map, List.length_append, List.length_cons, List.length_nil] at *; omega))) | ((with_reducible apply rp1); ((with_reducible apply qAk); exact tyOk rfl; eq_refl)) | ((with_reducible apply rpN); ((with_reducible apply qAb); exact tyOk rfl; (iterate 5 eq_refl))))
              refine qAn rfl (fun hd => ?_) (fun hd => ?_)
              · clear hd
                repeat (first | (with_reducible first | apply qAj | apply qAi | apply qAh | apply qAf | apply qAu | apply qAS | apply qBc | apply qAz) | ((with_reducible apply rp); ((with_reducible apply qAa); (conv => lhs; whnf))))
                (with_reducible apply qAA); (focus (repeat' (first | (with_reducible apply qAv) | (with_reducible apply qAq) | ((with_reducible apply qAD); eq_refl)))); eq_refl; refine SubD.of_eq ?_
                rfl
              · exfalso
                simp at hd
            · have hnx := hnext fun h => hkk h.2.2
              clear hnext
              repeat (first | (with_reducible first | apply qAj | apply qAi | apply qAh | apply qAf | apply qA4 | apply qAo | apply qAm) | ((with_reducible apply qBg); (first | kernel_rfl | eq_refl)) | ((first | (with_reducible first | apply rp | apply dr) | ((with_reducible apply drG); eq_refl; exact qAT rfl; (focus repeat' (first | exact trivial | exact id | apply And.intro)); intro zg; have zh := zg; (try simp only [zs1, zs2, zs3, zs4] at zg))); first | (exact qBz (i := j) (tyOk rfl) rfl (tyOk rfl) rfl rfl rfl (by omega) rfl) | (exact qB6 (j := j) (d := d) (c := ⟨true, numV kb :: lb⟩) (tyOk rfl) rfl rfl rfl rfl hb) | ((with_reducible apply qAd); (conv => lhs; whnf)) | ((with_reducible first | apply qAM | apply qAc | apply qAe | apply qCk) <;> first | ((with_reducible apply tyOk); eq_refl) | ((with_reducible apply tgOk); eq_refl) | eq_refl | exact id | decide) | ((with_reducible apply qAE); exact tyOk rfl; eq_refl; eq_refl; assumption; eq_refl) | ((with_reducible apply qAH); exact tyOk rfl; eq_refl; exact tyOk rfl; (iterate 4 eq_refl); (dsimp only; simp only [List.length_map, List.length_append, List.length_cons, List.length_nil] at *; omega))) | ((with_reducible apply rp1); ((with_reducible apply qAk); exact tyOk rfl; eq_refl)) | ((with_reducible apply rpN); ((with_reducible apply qAb); exact tyOk rfl; (iterate 5 eq_refl))))
              refine qAn rfl (fun hd => ?_) (fun _ => ?_)
              · exfalso
                simp [hkk] at hd
              repeat (first | (with_reducible first | apply qAi | apply qAh | apply qAf | apply qAF | apply qAm) | ((with_reducible apply rp); first | ((with_reducible apply qAd); (conv => lhs; whnf)) | ((with_reducible apply qAI); eq_refl; eq_refl; omega; omega)))
              refine ⟨_, _, ?_, ?_, j + 1, by omega, hnx, rfl, rfl⟩
              · omega
              · refine qAw [] (by repeat' (first | exact qAG | (refine qAx rfl (by exact SubA.refl _) ?_))) (by repeat' (first | exact trivial | eq_refl | exact kb_d rfl | apply And.intro)) rfl (insS rfl) (by repeat' (first | exact trivial | exact qA0 _ | exact qAX rfl | exact qEU rfl | apply And.intro))
        · have hke : j = k := by simp at hd; omega
          clear hd
          subst hke
          have hne : j ≠ k0 := fun h => by have := hjj0 h; omega
          repeat (first | (with_reducible first | apply qAi | apply qAh | apply qAf | apply qA5 | apply qA9 | apply qA8 | apply qAF) | ((with_reducible apply rp); first | ((with_reducible apply qAd); (conv => lhs; whnf)) | ((with_reducible apply qAI); eq_refl; eq_refl; omega; omega)))
          refine ⟨_, _, ?_, ?_, j + 1, by omega, rfl, rfl⟩
          · omega
          · refine qAw [] (by repeat' (first | exact qAG | (refine qAx rfl (by exact SubA.refl _) ?_))) (by repeat' (first | exact trivial | exact kb_d rfl | apply And.intro)) rfl (insS rfl) (by repeat' (first | exact trivial | exact qA0 _ | exact qAX rfl | apply And.intro))
    · exfalso
      simp at hd
      omega
end Go.Proofs.YtpaccaojgbfjdaaDoor

