/-
  chirograph/table: Rows as a contract.
-/
import Derived.Test.YtpaccaojgbfjdaaDoorZT
import Derived.Test.YtpaccaojgbfjdaaDoorZI
import Derived.Test.YtpaccaojgbfjdaaDoorZHeapR
import Derived.Test.YtpaccaojgbfjdaaDoorZJoinD
set_option linter.unusedSimpArgs false
set_option linter.unusedVariables false
namespace Go.Proofs.YtpaccaojgbfjdaaDoor
open Go.RowKit

def accF (a b : List Ce) (o0 o1 : Bool) : Nat → List (List Vl)
  | 0 => []
  | 1 => qBW o0 a []
  | _ => qBW o1 b (qBW o0 a [])
theorem qES {l : List (List Vl)} {i : Nat} {r : List Vl} (h : l[i]? = some r) : (l.map rowC)[i]? = some [qBx r] := by rw [List.getElem?_map, h]; rfl
theorem rowC_swap {q : List (List Vl)} {r p : List Vl} {j : Nat} (h : q[j]? = some p) : (((midF q r (j + 1)).map rowC).set (j + 1) [qBx p]).set j [qBx r] = (midF q r j).map rowC := by
  rw [← midF_swap h, List.map_set, List.map_set]
  rfl
set_option maxHeartbeats 8000000 in
theorem rows_pco (t : Tb) (h : TbOk t) (o0 o1 : Bool) : PCO Tryd.prog 14 [.ag t.cs, .ag [bD o0, bD o1]] 24 1 ((accF t.a t.b o0 o1 2).map rowC) [iD 0] := by
  have c1 := check_tb t h
  have hlen := Tb.len h
  obtain ⟨tn, tc, a, b⟩ := t
  obtain ⟨hn, hc, hk, ha, hb⟩ := h
  have hl5 := hc.len
  have ha4 := ha.len
  have hb4 := hb.len
  have hk0 : KeyL (accF a b o0 o1 0) := fun p hp => absurd hp (by unfold accF; simp)
  have hl0 : (accF a b o0 o1 0).length ≤ 0 := Nat.le_refl _
  have hs1 := qE6 hk o0 ha.ok hk0
  have hk1 : KeyL (accF a b o0 o1 1) := hs1.1
  have hl1 : (accF a b o0 o1 1).length ≤ 4 := by have := hs1.2; rw [ha4] at this; exact this
  clear hs1
  unfold Tb.cs at *
  dsimp only at *
  refine pco_of_aw Tryd.func14 rfl (by kernel_rfl) mixed (by kernel_rfl) (qle (by kernel_rfl)) Tryd.results14 ?_
  repeat (first | (with_reducible first | apply qAj | apply qAi | apply qAh | apply qAf | apply qAo | apply qAm) | ((with_reducible apply rp); first | (exact qA3 (tyOk rfl) rfl rfl rfl hlen) | ((with_reducible apply qAg); eq_refl; eq_refl; exact (c1); eq_refl) | (exact qEB (a := a) (b := b) (pre := [bD true, strD tn, qAW tc]) (tyOk rfl) rfl rfl rfl rfl rfl ha4 hb4) | ((with_reducible apply qAd); (conv => lhs; whnf)) | ((with_reducible apply qAa); (conv => lhs; whnf)) | ((with_reducible apply qAc); exact tyOk rfl; eq_refl; eq_refl; decide; eq_refl) | ((with_reducible apply qAU); eq_refl; eq_refl)) | ((with_reducible apply rp1); ((with_reducible apply qAp); eq_refl; eq_refl)) | ((with_reducible apply qA6); eq_refl; eq_refl))
  refine qBf (fun m s => ∃ i, i ≤ 2 ∧ m = 2 - i ∧ s = ⟨[(3, .px 3 0), (7, .ow 1000 (accF a b o0 o1 i).length), (20, .d (.ag (a.flatMap Ce.cs ++ b.flatMap Ce.cs))), (21, .d (iD i))], [(3, .var 43 [.d (bD o0), .d (bD o1)]), (1000, .row 24 1 ((accF a b o0 o1 i).map rowC))]⟩) _ _ ?_ ⟨0, by omega, rfl, rfl⟩ ?_
  · refine Ent.trans (ent_nil 7 1000 24 1 rfl rfl) ?_
    refine qAw [] (by repeat' (first | exact qAG | (refine qAx rfl (by exact SubA.refl _) ?_))) (kpX rfl) rfl (insS rfl) (insX rfl)
  · rintro m s ⟨i, hi2, rfl, rfl⟩
    repeat (first | (with_reducible first | apply qAj | apply qAi | apply qAh | apply qAf) | ((with_reducible apply rp); ((with_reducible apply qAN); eq_refl; eq_refl)))
    refine qAn rfl (fun hd => ?_) (fun hd => ?_)
    · have hlt : i < 2 := by simp at hd; omega
      clear hd c1 hlen
      rcases (by omega : i = 0 ∨ i = 1) with rfl | rfl
      · obtain ⟨acc, hacc⟩ : ∃ acc, accF a b o0 o1 0 = acc := ⟨_, rfl⟩
        have hka : KeyL acc := by rw [← hacc]; exact hk0
        have hla : acc.length ≤ 0 := by rw [← hacc]; exact hl0
        have hfin : ∀ d, drF a b 0 = d → accF a b o0 o1 (0 + 1) = qBW o0 d acc := by intro d h; subst h; rw [← hacc]; rfl
        rw [hacc]
        obtain ⟨d, hd⟩ : ∃ d, drF a b 0 = d := ⟨_, rfl⟩
        have hdo : DrOk tc d := by rw [← hd]; exact ha
        have h4 := hdo.len
        have h8 : (d.flatMap Ce.cs).length = 8 := by rw [qBA, h4]
        have ix := fun (P : Program) (dst : Option Nat) (ty : TypeId) (e : Operand → A) (β : Bx) (T el : TypeId) (x y : Operand) (t te : TyI) (len esz : Nat) (er : Bool) (k : IntKind) (n : Int) (h1 : mkTy P T = some t) (h2 : t.kind = .array len el esz er) (h3 : mkTy P el = some te) (h4 : te.row = true) (h5 : te.size = 8) (h6 : len = 2) (h7 : e x = .d (.ag (a.flatMap Ce.cs ++ b.flatMap Ce.cs))) (h8 : e y = .d (.sc (.int k n))) (h9 : n = ((0 : Nat) : Int)) => by
          have := qDb (P := P) (dst := dst) (ty := ty) (e := e) (β := β) (x := x) (y := y) h1 h2 h3 h4 h5 h6 h7 h8 h9 (by omega) ha4 hb4
          rw [hd] at this
          exact this
        have hfin2 := hfin d hd
        clear hfin hd
        repeat (first | (with_reducible first | apply qAj | apply qAi | apply qAh | apply qAf | apply qAo | apply qAm) | ((with_reducible apply rp); first | (exact ix _ _ _ _ _ _ _ _ _ _ _ _ _ _ _ _ (tyOk rfl) rfl (tyOk rfl) rfl rfl rfl rfl rfl rfl) | (exact qB2 (tyOk rfl) rfl rfl rfl rfl h4) | ((with_reducible apply qAd); (conv => lhs; whnf)) | ((with_reducible apply qAa); (conv => lhs; whnf)) | ((with_reducible apply qB7); exact tyOk rfl; eq_refl; eq_refl)) | ((with_reducible apply rp1); ((with_reducible apply qAk); exact tyOk rfl; eq_refl)) | ((with_reducible apply rpN); (exact qAb (tyOk rfl) rfl rfl rfl h8 h8)))
        refine qBf (fun m s => ∃ k, k ≤ 4 ∧ m = 4 - k ∧ s = ⟨[(3, .px 3 0), (7, .ow 1000 (qBW o0 (d.take k) acc).length), (8, .d (iD 0)), (10, .d (iD acc.length)), (20, .d (.ag (a.flatMap Ce.cs ++ b.flatMap Ce.cs))), (21, .d (iD 0)), (27, .d (.ag (d.flatMap Ce.cs))), (28, .d (iD k))], [(3, .var 43 [.d (bD o0), .d (bD o1)]), (1000, .row 24 1 ((qBW o0 (d.take k) acc).map rowC))]⟩) _ _ ?_ ⟨0, by omega, rfl, rfl⟩ ?_
        · rw [stepF_zero]
          refine qAw [] (by repeat' (first | exact qAG | (refine qAx rfl (by exact SubA.refl _) ?_))) (kpX rfl) rfl (insS rfl) (insX rfl)
        · rintro m s ⟨k, hk4, rfl, rfl⟩
          have hst := qE6 hk o0 (d := d.take k) (fun c hc => hdo.ok c (List.mem_of_mem_take hc)) hka
          obtain ⟨q, hq⟩ : ∃ q, qBW o0 (d.take k) acc = q := ⟨_, rfl⟩
          rw [hq] at hst ⊢
          obtain ⟨hkq, hlq⟩ := hst
          rw [List.length_take] at hlq
          have hq8 : q.length ≤ 8 := by omega
          repeat (first | (with_reducible first | apply qAj | apply qAi | apply qAh | apply qAf) | ((with_reducible apply rp); ((with_reducible apply qAN); eq_refl; eq_refl)))
          refine qAn rfl (fun hd => ?_) (fun hd => ?_)
          · have hlt4 : k < 4 := by simp at hd; omega
            clear hd
            obtain ⟨c, hcc⟩ : ∃ c, d[k]? = some c := ⟨_, List.getElem?_eq_getElem (by omega)⟩
            have hco := hdo.ok c (List.mem_of_getElem? hcc)
            cases o0 with
            | false =>
              have e1 : qBW false (d.take (k + 1)) acc = q := by rw [← hq]; rfl
              repeat (first | (with_reducible first | apply qAj | apply qAi | apply qAh | apply qAf | apply qAo | apply qA5 | apply qA9 | apply qA8 | apply qAm) | ((first | (with_reducible apply rp) | ((with_reducible apply rpG); eq_refl; exact qAP rfl; (focus repeat' (first | exact trivial | exact id | apply And.intro)); intro zg; have zh := zg; (try simp only [zs1, zs2, zs3, zs4] at zg))); first | (exact qBl (d := d) (c := c) (tyOk rfl) rfl (tyOk rfl) rfl rfl rfl rfl rfl h4 hcc) | ((with_reducible apply qAd); (conv => lhs; whnf)) | ((with_reducible first | apply qAJ | apply qAc | apply qAe | apply qAZ) <;> first | ((with_reducible apply tyOk); eq_refl) | eq_refl | exact id | decide) | ((with_reducible apply qAL); exact tyOk rfl; (iterate 3 eq_refl); omega; decide; eq_refl) | ((with_reducible apply qAI); eq_refl; eq_refl; omega; omega)) | ((with_reducible apply rp1); ((with_reducible apply qAk); exact tyOk rfl; eq_refl)) | ((with_reducible apply rpN); ((with_reducible apply qAb); exact tyOk rfl; (iterate 5 eq_refl))) | ((with_reducible apply qBq); eq_refl; eq_refl))
              refine ⟨_, _, ?_, ?_, k + 1, by omega, rfl, rfl⟩
              · omega
              · rw [e1]
                refine qAw [] (by repeat' (first | exact qAG | (refine qAx rfl (by exact SubA.refl _) ?_))) (kpX rfl) rfl (insS rfl) (insX rfl)
            | true =>
              obtain ⟨cf, cr⟩ := c
              cases cf with
              | false =>
                have e1 : qBW true (d.take (k + 1)) acc = q := by rw [stepF_free hcc, hq]
                repeat (first | (with_reducible first | apply qAj | apply qAi | apply qAh | apply qAf | apply qAo | apply qA5 | apply qA9 | apply qA8 | apply qAm) | ((first | (with_reducible apply rp) | ((with_reducible apply rpG); eq_refl; exact qAP rfl; (focus repeat' (first | exact trivial | exact id | apply And.intro)); intro zg; have zh := zg; (try simp only [zs1, zs2, zs3, zs4] at zg))); first | (exact qBl (d := d) (c := ⟨false, cr⟩) (tyOk rfl) rfl (tyOk rfl) rfl rfl rfl rfl rfl h4 hcc) | ((with_reducible apply qAd); (conv => lhs; whnf)) | ((with_reducible first | apply qAJ | apply qAc | apply qAe | apply qAZ) <;> first | ((with_reducible apply tyOk); eq_refl) | eq_refl | exact id | decide) | ((with_reducible apply qAL); exact tyOk rfl; (iterate 3 eq_refl); omega; decide; eq_refl) | ((with_reducible apply qAI); eq_refl; eq_refl; omega; omega)) | ((with_reducible apply rp1); ((with_reducible apply qAk); exact tyOk rfl; eq_refl)) | ((with_reducible apply rpN); ((with_reducible apply qAb); exact tyOk rfl; (iterate 5 eq_refl))) | ((with_reducible apply qBq); eq_refl; eq_refl))
                refine ⟨_, _, ?_, ?_, k + 1, by omega, rfl, rfl⟩
                · omega
                · rw [e1]
                  refine qAw [] (by repeat' (first | exact qAG | (refine qAx rfl (by exact SubA.refl _) ?_))) (kpX rfl) rfl (insS rfl) (insX rfl)
              | true =>
                obtain ⟨kr, lr, e0⟩ := qCm (hco.fit rfl) hk
                dsimp only at e0
                subst e0
                have t1 := qCQ (numV kr :: lr) (by have := (hco.fit rfl).len; dsimp only at this; omega)
                have e1 : qBW true (d.take (k + 1)) acc = insF q acc.length (numV kr :: lr) := by rw [stepF_full hcc, hq]
                have l1 : (q.map rowC).length = q.length := List.length_map _
                repeat (first | (with_reducible first | apply qAj | apply qAi | apply qAh | apply qAf | apply qAo | apply qAm) | ((first | (with_reducible apply rp) | ((with_reducible apply rpG); eq_refl; exact qAP rfl; (focus repeat' (first | exact trivial | exact id | apply And.intro)); intro zg; have zh := zg; (try simp only [zs1, zs2, zs3, zs4] at zg))); first | (exact qBl (d := d) (c := ⟨true, numV kr :: lr⟩) (tyOk rfl) rfl (tyOk rfl) rfl rfl rfl rfl rfl h4 hcc) | ((with_reducible apply qAK); (iterate 3 eq_refl); exact (t1)) | (exact qBd (z := (q.length : Int)) rfl rfl (by simp) (by omega) (by omega)) | ((with_reducible first | apply qAd | apply qAa); (conv => lhs; whnf)) | ((with_reducible first | apply qAJ | apply qAc | apply qAe | apply qAZ | apply qB7) <;> first | ((with_reducible apply tyOk); eq_refl) | eq_refl | exact id | decide) | ((with_reducible apply qAL); exact tyOk rfl; (iterate 3 eq_refl); (first | omega | (dsimp only; simp only [List.length_map, List.length_append, List.length_cons, List.length_nil] at *; omega) | (simp only [List.length_map, List.length_append, List.length_cons, List.length_nil] at *; omega)); decide; eq_refl)) | ((with_reducible apply rp1); first | ((with_reducible apply qAk); exact tyOk rfl; eq_refl) | ((with_reducible apply qA2); exact tyOk rfl; eq_refl; exact tyOk rfl; eq_refl; eq_refl; (focus repeat' (first | exact trivial | refine And.intro rfl (And.intro rfl ?_))); decide; decide; eq_refl)) | ((with_reducible apply rp2); ((with_reducible apply qBm); exact tyOk rfl; eq_refl; exact tyOk rfl; (iterate 3 eq_refl); decide; (first | omega | (dsimp only; simp only [List.length_map, List.length_append, List.length_cons, List.length_nil] at *; omega) | (simp only [List.length_map, List.length_append, List.length_cons, List.length_nil] at *; omega)); (first | omega | (dsimp only; simp only [List.length_map, List.length_append, List.length_cons, List.length_nil] at *; omega) | (simp only [List.length_map, List.length_append, List.length_cons, List.length_nil] at *; omega)); eq_refl)) | ((with_reducible apply rpN); ((with_reducible apply qAb); exact tyOk rfl; (iterate 5 eq_refl))) | ((with_reducible apply qA6); eq_refl; eq_refl))
                refine qBf (fun m s => ∃ j, j ≤ q.length ∧ j = m ∧ insJ q acc.length (numV kr :: lr) j = insF q acc.length (numV kr :: lr) ∧ s = ⟨[(3, .px 3 0), (7, .ow 1000 (q.length + 1)), (8, .d (iD 0)), (10, .d (iD acc.length)), (13, .d (iD j)), (20, .d (.ag (a.flatMap Ce.cs ++ b.flatMap Ce.cs))), (21, .d (iD 0)), (27, .d (.ag (d.flatMap Ce.cs))), (28, .d (iD k))], [(3, .var 43 [.d (bD true), .d (bD o1)]), (1000, .row 24 1 ((midF q (numV kr :: lr) j).map rowC))]⟩) _ _ ?_ ⟨q.length, Nat.le_refl _, rfl, rfl, rfl⟩ ?_
                · rw [midF_end, List.map_append]
                  refine qAw [(1000, 45)] (by repeat' (first | exact qAG | (refine qAx rfl (by (first | exact SubA.refl _ | exact qDs (by (simp; done)))) ?_))) ?_ rfl (by repeat' (first | exact trivial | exact qBJ rfl | exact qAX rfl | apply And.intro)) (by repeat' (first | exact trivial | exact qBJ rfl | exact qAX rfl | apply And.intro))
                  exact qCB rfl rfl (qCB rfl (qEW rfl) qEY)
                · rintro m s ⟨j, hj, rfl, hins, rfl⟩
                  clear t1 l1
                  by_cases hsj : acc.length < j
                  · obtain ⟨j, rfl⟩ : ∃ i, j = i + 1 := ⟨j - 1, by omega⟩
                    obtain ⟨p, hp⟩ : ∃ p, q[j]? = some p := ⟨_, List.getElem?_eq_getElem (by omega)⟩
                    obtain ⟨kp, lp, e0⟩ := hkq p (List.mem_of_getElem? hp)
                    subst e0
                    have g1 := qES (midF_at (r := numV kr :: lr) hj)
                    have g2 := qES (midF_pre (r := numV kr :: lr) hp)
                    have g3 := rowC_swap (r := numV kr :: lr) hp
                    have hgr : ((numV kr :: lr).map Vl.cs)[0]? = some [iD 2, iD kr, qD 0, strD .empty] := rfl
                    have hgp : ((numV kp :: lp).map Vl.cs)[0]? = some [iD 2, iD kp, qD 0, strD .empty] := rfl
                    have hgt : decide (((j + 1 : Nat) : Int) > (acc.length : Int)) = true := by rw [decide_eq_true_eq]; omega
                    obtain ⟨es, hes⟩ : ∃ es, (midF q (numV kr :: lr) (j + 1)).map rowC = es := ⟨_, rfl⟩
                    rw [hes] at g1 g2 g3 ⊢
                    have g4 : (es.set (j + 1) [qBx (numV kp :: lp)])[j]? = some [qBx (numV kp :: lp)] := by rw [List.getElem?_set_ne (by omega), g2]
                    repeat (first | (with_reducible first | apply qAj | apply qAf | apply qA4) | ((with_reducible apply qBg); (first | kernel_rfl | eq_refl)) | ((first | (with_reducible apply dr) | ((with_reducible apply drG); eq_refl; exact qAT rfl; (focus repeat' (first | exact trivial | exact id | apply And.intro)); intro zg; have zh := zg; (try simp only [zs1, zs2, zs3, zs4] at zg))); first | (exact qBd (z := (j : Int)) rfl rfl (by omega) (by omega) (by omega)) | ((with_reducible apply qAd); (conv => lhs; whnf)) | ((with_reducible first | apply qAM | apply qAc | apply qAN | apply qBH) <;> first | ((with_reducible apply tyOk); eq_refl) | eq_refl | exact id | decide) | ((with_reducible apply qBp); exact tyOk rfl; eq_refl; eq_refl; assumption; eq_refl) | ((with_reducible apply qBR); exact tyOk rfl; (iterate 3 eq_refl); assumption; eq_refl) | ((with_reducible apply qAH); exact tyOk rfl; eq_refl; exact tyOk rfl; (iterate 4 eq_refl); (first | omega | (dsimp only; simp only [List.length_map, List.length_append, List.length_cons, List.length_nil] at *; omega))) | ((with_reducible apply qBy); exact tyOk rfl; eq_refl; exact tyOk rfl; (iterate 3 eq_refl); (first | omega | (dsimp only; simp only [List.length_map, List.length_append, List.length_cons, List.length_nil] at *; omega)))))
                    refine qAn rfl (fun hd => ?_) (fun hd => ?_)
                    · have hlt : kr < kp := by simp at hd; omega
                      clear hd
                      repeat (first | (with_reducible first | apply qAj | apply qAi | apply qAh | apply qAf | apply qA4 | apply qAo | apply qAF | apply qAm) | ((with_reducible apply qBg); (first | kernel_rfl | eq_refl)) | ((with_reducible first | apply rp | apply dr); first | (exact qBd (z := (j : Int)) rfl rfl (by omega) (by omega) (by omega)) | ((with_reducible first | apply qAd | apply qAa); (conv => lhs; whnf)) | ((with_reducible apply qBR); exact tyOk rfl; (iterate 3 eq_refl); assumption; eq_refl) | ((with_reducible apply qBy); exact tyOk rfl; eq_refl; exact tyOk rfl; (iterate 3 eq_refl); omega)) | ((with_reducible apply drN); ((with_reducible apply qDa); exact tyOk rfl; (iterate 4 eq_refl); assumption; eq_refl; exact qle rfl)))
                      refine ⟨_, _, ?_, ?_, j, by omega, rfl, ?_, rfl⟩
                      · omega
                      · rw [← g3]
                        refine qAw [] (by repeat' (first | exact qAG | (refine qAx rfl (by exact SubA.refl _) ?_))) (kpX rfl) rfl (insS rfl) (insX rfl)
                      · rw [← hins, insJ_down (r := numV kr :: lr) hp hsj hlt]
                    · have hlt : ¬ kr < kp := by simp at hd; omega
                      clear hd
                      repeat (first | (with_reducible first | apply qAi | apply qAh | apply qAf | apply qA5 | apply qA9 | apply qA8 | apply qAF) | ((with_reducible apply rp); first | ((with_reducible apply qAd); (conv => lhs; whnf)) | ((with_reducible apply qAI); eq_refl; eq_refl; omega; omega)))
                      refine ⟨_, _, ?_, ?_, k + 1, by omega, rfl, rfl⟩
                      · omega
                      · rw [e1, ← hins, insJ_here (r := numV kr :: lr) hp hlt, qE4 hj, hes]
                        refine qAw [] (by repeat' (first | exact qAG | (refine qAx rfl (by exact SubA.refl _) ?_))) (kpX rfl) rfl (insS rfl) (insX rfl)
                  · have hff : decide ((j : Int) > (acc.length : Int)) = false := by rw [decide_eq_false_iff_not]; omega
                    repeat (first | (with_reducible first | apply qAj | apply qAf | apply qA4) | ((with_reducible apply qBg); (first | kernel_rfl | eq_refl)) | ((first | (with_reducible apply dr) | ((with_reducible apply drG); eq_refl; exact qAT rfl; (focus repeat' (first | exact trivial | exact id | apply And.intro)); intro zg; have zh := zg; (try simp only [zs1, zs2, zs3, zs4] at zg))); first | ((with_reducible apply qAd); (conv => lhs; whnf)) | ((with_reducible apply qB8); eq_refl; (first | assumption | decide); (conv => lhs; whnf)) | ((with_reducible apply qBy); exact tyOk rfl; eq_refl; exact tyOk rfl; (iterate 3 eq_refl); omega) | ((with_reducible apply qBH); eq_refl; eq_refl) | ((with_reducible apply qCK); eq_refl; eq_refl; omega; omega)) | ((first | (with_reducible apply rpGF) | (with_reducible apply drGF)); eq_refl; exact qAT rfl; (first | assumption | decide | eq_refl); (focus repeat' (first | exact trivial | exact id | apply And.intro))))
                    refine qAn rfl (fun hd => ?_) (fun hd => ?_)
                    · exfalso
                      simp at hd <;> omega
                    · clear hd
                      repeat (first | (with_reducible first | apply qAi | apply qAh | apply qAf | apply qA5 | apply qA9 | apply qA8 | apply qAF) | ((with_reducible apply rp); first | ((with_reducible apply qAd); (conv => lhs; whnf)) | ((with_reducible apply qAI); eq_refl; eq_refl; omega; omega)))
                      refine ⟨_, _, ?_, ?_, k + 1, by omega, rfl, rfl⟩
                      · omega
                      · rw [e1, ← hins, insJ_at hsj, qE4 hj]
                        refine qAw [] (by repeat' (first | exact qAG | (refine qAx rfl (by exact SubA.refl _) ?_))) (kpX rfl) rfl (insS rfl) (insX rfl)
          · have hke : k = 4 := by simp at hd; omega
            clear hd
            subst hke
            rw [List.take_of_length_le (by omega)] at hq
            rw [hq] at hfin2
            repeat (first | (with_reducible first | apply qAi | apply qAh | apply qAf | apply qA5 | apply qA9 | apply qA8 | apply qAF) | ((with_reducible apply rp); first | ((with_reducible apply qAd); (conv => lhs; whnf)) | ((with_reducible apply qAI); eq_refl; eq_refl; omega; omega)))
            refine ⟨_, _, ?_, ?_, 0 + 1, by omega, rfl, rfl⟩
            · omega
            · rw [hfin2]
              refine qAw [] (by repeat' (first | exact qAG | (refine qAx rfl (by exact SubA.refl _) ?_))) (kpX rfl) rfl (insS rfl) (insX rfl)
      · obtain ⟨acc, hacc⟩ : ∃ acc, accF a b o0 o1 1 = acc := ⟨_, rfl⟩
        have hka : KeyL acc := by rw [← hacc]; exact hk1
        have hla : acc.length ≤ 4 := by rw [← hacc]; exact hl1
        have hfin : ∀ d, drF a b 1 = d → accF a b o0 o1 (1 + 1) = qBW o1 d acc := by intro d h; subst h; rw [← hacc]; rfl
        rw [hacc]
        obtain ⟨d, hd⟩ : ∃ d, drF a b 1 = d := ⟨_, rfl⟩
        have hdo : DrOk tc d := by rw [← hd]; exact hb
        have h4 := hdo.len
        have h8 : (d.flatMap Ce.cs).length = 8 := by rw [qBA, h4]
        have ix := fun (P : Program) (dst : Option Nat) (ty : TypeId) (e : Operand → A) (β : Bx) (T el : TypeId) (x y : Operand) (t te : TyI) (len esz : Nat) (er : Bool) (k : IntKind) (n : Int) (h1 : mkTy P T = some t) (h2 : t.kind = .array len el esz er) (h3 : mkTy P el = some te) (h4 : te.row = true) (h5 : te.size = 8) (h6 : len = 2) (h7 : e x = .d (.ag (a.flatMap Ce.cs ++ b.flatMap Ce.cs))) (h8 : e y = .d (.sc (.int k n))) (h9 : n = ((1 : Nat) : Int)) => by
          have := qDb (P := P) (dst := dst) (ty := ty) (e := e) (β := β) (x := x) (y := y) h1 h2 h3 h4 h5 h6 h7 h8 h9 (by omega) ha4 hb4
          rw [hd] at this
          exact this
        have hfin2 := hfin d hd
        clear hfin hd
        repeat (first | (with_reducible first | apply qAj | apply qAi | apply qAh | apply qAf | apply qAo | apply qAm) | ((with_reducible apply rp); first | (exact ix _ _ _ _ _ _ _ _ _ _ _ _ _ _ _ _ (tyOk rfl) rfl (tyOk rfl) rfl rfl rfl rfl rfl rfl) | (exact qB2 (tyOk rfl) rfl rfl rfl rfl h4) | ((with_reducible apply qAd); (conv => lhs; whnf)) | ((with_reducible apply qAa); (conv => lhs; whnf)) | ((with_reducible apply qB7); exact tyOk rfl; eq_refl; eq_refl)) | ((with_reducible apply rp1); ((with_reducible apply qAk); exact tyOk rfl; eq_refl)) | ((with_reducible apply rpN); (exact qAb (tyOk rfl) rfl rfl rfl h8 h8)))
        refine qBf (fun m s => ∃ k, k ≤ 4 ∧ m = 4 - k ∧ s = ⟨[(3, .px 3 0), (7, .ow 1000 (qBW o1 (d.take k) acc).length), (8, .d (iD 1)), (10, .d (iD acc.length)), (20, .d (.ag (a.flatMap Ce.cs ++ b.flatMap Ce.cs))), (21, .d (iD 1)), (27, .d (.ag (d.flatMap Ce.cs))), (28, .d (iD k))], [(3, .var 43 [.d (bD o0), .d (bD o1)]), (1000, .row 24 1 ((qBW o1 (d.take k) acc).map rowC))]⟩) _ _ ?_ ⟨0, by omega, rfl, rfl⟩ ?_
        · rw [stepF_zero]
          refine qAw [] (by repeat' (first | exact qAG | (refine qAx rfl (by exact SubA.refl _) ?_))) (kpX rfl) rfl (insS rfl) (insX rfl)
        · rintro m s ⟨k, hk4, rfl, rfl⟩
          have hst := qE6 hk o1 (d := d.take k) (fun c hc => hdo.ok c (List.mem_of_mem_take hc)) hka
          obtain ⟨q, hq⟩ : ∃ q, qBW o1 (d.take k) acc = q := ⟨_, rfl⟩
          rw [hq] at hst ⊢
          obtain ⟨hkq, hlq⟩ := hst
          rw [List.length_take] at hlq
          have hq8 : q.length ≤ 8 := by omega
          repeat (first | (with_reducible first | apply qAj | apply qAi | apply qAh | apply qAf) | ((with_reducible apply rp); ((with_reducible apply qAN); eq_refl; eq_refl)))
          refine qAn rfl (fun hd => ?_) (fun hd => ?_)
          · have hlt4 : k < 4 := by simp at hd; omega
            clear hd
            obtain ⟨c, hcc⟩ : ∃ c, d[k]? = some c := ⟨_, List.getElem?_eq_getElem (by omega)⟩
            have hco := hdo.ok c (List.mem_of_getElem? hcc)
            cases o1 with
            | false =>
              have e1 : qBW false (d.take (k + 1)) acc = q := by rw [← hq]; rfl
              repeat (first | (with_reducible first | apply qAj | apply qAi | apply qAh | apply qAf | apply qAo | apply qA5 | apply qA9 | apply qA8 | apply qAm) | ((first | (with_reducible apply rp) | ((with_reducible apply rpG); eq_refl; exact qAP rfl; (focus repeat' (first | exact trivial | exact id | apply And.intro)); intro zg; have zh := zg; (try simp only [zs1, zs2, zs3, zs4] at zg))); first | (exact qBl (d := d) (c := c) (tyOk rfl) rfl (tyOk rfl) rfl rfl rfl rfl rfl h4 hcc) | ((with_reducible apply qAd); (conv => lhs; whnf)) | ((with_reducible first | apply qAJ | apply qAc | apply qAe | apply qAZ) <;> first | ((with_reducible apply tyOk); eq_refl) | eq_refl | exact id | decide) | ((with_reducible apply qAL); exact tyOk rfl; (iterate 3 eq_refl); omega; decide; eq_refl) | ((with_reducible apply qAI); eq_refl; eq_refl; omega; omega)) | ((with_reducible apply rp1); ((with_reducible apply qAk); exact tyOk rfl; eq_refl)) | ((with_reducible apply rpN); ((with_reducible apply qAb); exact tyOk rfl; (iterate 5 eq_refl))) | ((with_reducible apply qBq); eq_refl; eq_refl))
              refine ⟨_, _, ?_, ?_, k + 1, by omega, rfl, rfl⟩
              · omega
              · rw [e1]
                refine qAw [] (by repeat' (first | exact qAG | (refine qAx rfl (by exact SubA.refl _) ?_))) (kpX rfl) rfl (insS rfl) (insX rfl)
            | true =>
              obtain ⟨cf, cr⟩ := c
              cases cf with
              | false =>
                have e1 : qBW true (d.take (k + 1)) acc = q := by rw [stepF_free hcc, hq]
                repeat (first | (with_reducible first | apply qAj | apply qAi | apply qAh | apply qAf | apply qAo | apply qA5 | apply qA9 | apply qA8 | apply qAm) | ((first | (with_reducible apply rp) | ((with_reducible apply rpG); eq_refl; exact qAP rfl; (focus repeat' (first | exact trivial | exact id | apply And.intro)); intro zg; have zh := zg; (try simp only [zs1, zs2, zs3, zs4] at zg))); first | (exact qBl (d := d) (c := ⟨false, cr⟩) (tyOk rfl) rfl (tyOk rfl) rfl rfl rfl rfl rfl h4 hcc) | ((with_reducible apply qAd); (conv => lhs; whnf)) | ((with_reducible first | apply qAJ | apply qAc | apply qAe | apply qAZ) <;> first | ((with_reducible apply tyOk); eq_refl) | eq_refl | exact id | decide) | ((with_reducible apply qAL); exact tyOk rfl; (iterate 3 eq_refl); omega; decide; eq_refl) | ((with_reducible apply qAI); eq_refl; eq_refl; omega; omega)) | ((with_reducible apply rp1); ((with_reducible apply qAk); exact tyOk rfl; eq_refl)) | ((with_reducible apply rpN); ((with_reducible apply qAb); exact tyOk rfl; (iterate 5 eq_refl))) | ((with_reducible apply qBq); eq_refl; eq_refl))
                refine ⟨_, _, ?_, ?_, k + 1, by omega, rfl, rfl⟩
                · omega
                · rw [e1]
                  refine qAw [] (by repeat' (first | exact qAG | (refine qAx rfl (by exact SubA.refl _) ?_))) (kpX rfl) rfl (insS rfl) (insX rfl)
              | true =>
                obtain ⟨kr, lr, e0⟩ := qCm (hco.fit rfl) hk
                dsimp only at e0
                subst e0
                have t1 := qCQ (numV kr :: lr) (by have := (hco.fit rfl).len; dsimp only at this; omega)
                have e1 : qBW true (d.take (k + 1)) acc = insF q acc.length (numV kr :: lr) := by rw [stepF_full hcc, hq]
                have l1 : (q.map rowC).length = q.length := List.length_map _
                repeat (first | (with_reducible first | apply qAj | apply qAi | apply qAh | apply qAf | apply qAo | apply qAm) | ((first | (with_reducible apply rp) | ((with_reducible apply rpG); eq_refl; exact qAP rfl; (focus repeat' (first | exact trivial | exact id | apply And.intro)); intro zg; have zh := zg; (try simp only [zs1, zs2, zs3, zs4] at zg))); first | (exact qBl (d := d) (c := ⟨true, numV kr :: lr⟩) (tyOk rfl) rfl (tyOk rfl) rfl rfl rfl rfl rfl h4 hcc) | ((with_reducible apply qAK); (iterate 3 eq_refl); exact (t1)) | (exact qBd (z := (q.length : Int)) rfl rfl (by simp) (by omega) (by omega)) | ((with_reducible first | apply qAd | apply qAa); (conv => lhs; whnf)) | ((with_reducible first | apply qAJ | apply qAc | apply qAe | apply qAZ | apply qB7) <;> first | ((with_reducible apply tyOk); eq_refl) | eq_refl | exact id | decide) | ((with_reducible apply qAL); exact tyOk rfl; (iterate 3 eq_refl); (first | omega | (dsimp only; simp only [List.length_map, List.length_append, List.length_cons, List.length_nil] at *; omega) | (simp only [List.length_map, List.length_append, List.length_cons, List.length_nil] at *; omega)); decide; eq_refl)) | ((with_reducible apply rp1); first | ((with_reducible apply qAk); exact tyOk rfl; eq_refl) | ((with_reducible apply qA2); exact tyOk rfl; eq_refl; exact tyOk rfl; eq_refl; eq_refl; (focus repeat' (first | exact trivial | refine And.intro rfl (And.intro rfl ?_))); decide; decide; eq_refl)) | ((with_reducible apply rp2); ((with_reducible apply qBm); exact tyOk rfl; eq_refl; exact tyOk rfl; (iterate 3 eq_refl); decide; (first | omega | (dsimp only; simp only [List.length_map, List.length_append, List.length_cons, List.length_nil] at *; omega) | (simp only [List.length_map, List.length_append, List.length_cons, List.length_nil] at *; omega)); (first | omega | (dsimp only; simp only [List.length_map, List.length_append, List.length_cons, List.length_nil] at *; omega) | (simp only [List.length_map, List.length_append, List.length_cons, List.length_nil] at *; omega)); eq_refl)) | ((with_reducible apply rpN); ((with_reducible apply qAb); exact tyOk rfl; (iterate 5 eq_refl))) | ((with_reducible apply qA6); eq_refl; eq_refl))
                refine qBf (fun m s => ∃ j, j ≤ q.length ∧ j = m ∧ insJ q acc.length (numV kr :: lr) j = insF q acc.length (numV kr :: lr) ∧ s = ⟨[(3, .px 3 0), (7, .ow 1000 (q.length + 1)), (8, .d (iD 1)), (10, .d (iD acc.length)), (13, .d (iD j)), (20, .d (.ag (a.flatMap Ce.cs ++ b.flatMap Ce.cs))), (21, .d (iD 1)), (27, .d (.ag (d.flatMap Ce.cs))), (28, .d (iD k))], [(3, .var 43 [.d (bD o0), .d (bD true)]), (1000, .row 24 1 ((midF q (numV kr :: lr) j).map rowC))]⟩) _ _ ?_ ⟨q.length, Nat.le_refl _, rfl, rfl, rfl⟩ ?_
                · rw [midF_end, List.map_append]
                  refine qAw [(1000, 45)] (by repeat' (first | exact qAG | (refine qAx rfl (by (first | exact SubA.refl _ | exact qDs (by (simp; done)))) ?_))) ?_ rfl (by repeat' (first | exact trivial | exact qBJ rfl | exact qAX rfl | apply And.intro)) (by repeat' (first | exact trivial | exact qBJ rfl | exact qAX rfl | apply And.intro))
                  exact qCB rfl rfl (qCB rfl (qEW rfl) qEY)
                · rintro m s ⟨j, hj, rfl, hins, rfl⟩
                  clear t1 l1
                  by_cases hsj : acc.length < j
                  · obtain ⟨j, rfl⟩ : ∃ i, j = i + 1 := ⟨j - 1, by omega⟩
                    obtain ⟨p, hp⟩ : ∃ p, q[j]? = some p := ⟨_, List.getElem?_eq_getElem (by omega)⟩
                    obtain ⟨kp, lp, e0⟩ := hkq p (List.mem_of_getElem? hp)
                    subst e0
                    have g1 := qES (midF_at (r := numV kr :: lr) hj)
                    have g2 := qES (midF_pre (r := numV kr :: lr) hp)
                    have g3 := rowC_swap (r := numV kr :: lr) hp
                    have hgr : ((numV kr :: lr).map Vl.cs)[0]? = some [iD 2, iD kr, qD 0, strD .empty] := rfl
                    have hgp : ((numV kp :: lp).map Vl.cs)[0]? = some [iD 2, iD kp, qD 0, strD .empty] := rfl
                    have hgt : decide (((j + 1 : Nat) : Int) > (acc.length : Int)) = true := by rw [decide_eq_true_eq]; omega
                    obtain ⟨es, hes⟩ : ∃ es, (midF q (numV kr :: lr) (j + 1)).map rowC = es := ⟨_, rfl⟩
                    rw [hes] at g1 g2 g3 ⊢
                    have g4 : (es.set (j + 1) [qBx (numV kp :: lp)])[j]? = some [qBx (numV kp :: lp)] := by rw [List.getElem?_set_ne (by omega), g2]
                    repeat (first | (with_reducible first | apply qAj | apply qAf | apply qA4) | ((with_reducible apply qBg); (first | kernel_rfl | eq_refl)) | ((first | (with_reducible apply dr) | ((with_reducible apply drG); eq_refl; exact qAT rfl; (focus repeat' (first | exact trivial | exact id | apply And.intro)); intro zg; have zh := zg; (try simp only [zs1, zs2, zs3, zs4] at zg))); first | (exact qBd (z := (j : Int)) rfl rfl (by omega) (by omega) (by omega)) | ((with_reducible apply qAd); (conv => lhs; whnf)) | ((with_reducible first | apply qAM | apply qAc | apply qAN | apply qBH) <;> first | ((with_reducible apply tyOk); eq_refl) | eq_refl | exact id | decide) | ((with_reducible apply qBp); exact tyOk rfl; eq_refl; eq_refl; assumption; eq_refl) | ((with_reducible apply qBR); exact tyOk rfl; (iterate 3 eq_refl); assumption; eq_refl) | ((with_reducible apply qAH); exact tyOk rfl; eq_refl; exact tyOk rfl; (iterate 4 eq_refl); (first | omega | (dsimp only; simp only [List.length_map, List.length_append, List.length_cons, List.length_nil] at *; omega))) | ((with_reducible apply qBy); exact tyOk rfl; eq_refl; exact tyOk rfl; (iterate 3 eq_refl); (first | omega | (dsimp only; simp only [List.length_map, List.length_append, List.length_cons, List.length_nil] at *; omega)))))
                    refine qAn rfl (fun hd => ?_) (fun hd => ?_)
                    · have hlt : kr < kp := by simp at hd; omega
                      clear hd
                      repeat (first | (with_reducible first | apply qAj | apply qAi | apply qAh | apply qAf | apply qA4 | apply qAo | apply qAF | apply qAm) | ((with_reducible apply qBg); (first | kernel_rfl | eq_refl)) | ((with_reducible first | apply rp | apply dr); first | (exact qBd (z := (j : Int)) rfl rfl (by omega) (by omega) (by omega)) | ((with_reducible first | apply qAd | apply qAa); (conv => lhs; whnf)) | ((with_reducible apply qBR); exact tyOk rfl; (iterate 3 eq_refl); assumption; eq_refl) | ((with_reducible apply qBy); exact tyOk rfl; eq_refl; exact tyOk rfl; (iterate 3 eq_refl); omega)) | ((with_reducible apply drN); ((with_reducible apply qDa); exact tyOk rfl; (iterate 4 eq_refl); assumption; eq_refl; exact qle rfl)))
                      refine ⟨_, _, ?_, ?_, j, by omega, rfl, ?_, rfl⟩
                      · omega
                      · rw [← g3]
                        refine qAw [] (by repeat' (first | exact qAG | (refine qAx rfl (by exact SubA.refl _) ?_))) (kpX rfl) rfl (insS rfl) (insX rfl)
                      · rw [← hins, insJ_down (r := numV kr :: lr) hp hsj hlt]
                    · have hlt : ¬ kr < kp := by simp at hd; omega
                      clear hd
                      repeat (first | (with_reducible first | apply qAi | apply qAh | apply qAf | apply qA5 | apply qA9 | apply qA8 | apply qAF) | ((with_reducible apply rp); first | ((with_reducible apply qAd); (conv => lhs; whnf)) | ((with_reducible apply qAI); eq_refl; eq_refl; omega; omega)))
                      refine ⟨_, _, ?_, ?_, k + 1, by omega, rfl, rfl⟩
                      · omega
                      · rw [e1, ← hins, insJ_here (r := numV kr :: lr) hp hlt, qE4 hj, hes]
                        refine qAw [] (by repeat' (first | exact qAG | (refine qAx rfl (by exact SubA.refl _) ?_))) (kpX rfl) rfl (insS rfl) (insX rfl)
                  · have hff : decide ((j : Int) > (acc.length : Int)) = false := by rw [decide_eq_false_iff_not]; omega
                    repeat (first | (with_reducible first | apply qAj | apply qAf | apply qA4) | ((with_reducible apply qBg); (first | kernel_rfl | eq_refl)) | ((first | (with_reducible apply dr) | ((with_reducible apply drG); eq_refl; exact qAT rfl; (focus repeat' (first | exact trivial | exact id | apply And.intro)); intro zg; have zh := zg; (try simp only [zs1, zs2, zs3, zs4] at zg))); first | ((with_reducible apply qAd); (conv => lhs; whnf)) | ((with_reducible apply qB8); eq_refl; (first | assumption | decide); (conv => lhs; whnf)) | ((with_reducible apply qBy); exact tyOk rfl; eq_refl; exact tyOk rfl; (iterate 3 eq_refl); omega) | ((with_reducible apply qBH); eq_refl; eq_refl) | ((with_reducible apply qCK); eq_refl; eq_refl; omega; omega)) | ((first | (with_reducible apply rpGF) | (with_reducible apply drGF)); eq_refl; exact qAT rfl; (first | assumption | decide | eq_refl); (focus repeat' (first | exact trivial | exact id | apply And.intro))))
                    refine qAn rfl (fun hd => ?_) (fun hd => ?_)
                    · exfalso
                      simp at hd <;> omega
                    · clear hd
                      repeat (first | (with_reducible first | apply qAi | apply qAh | apply qAf | apply qA5 | apply qA9 | apply qA8 | apply qAF) | ((with_reducible apply rp); first | ((with_reducible apply qAd); (conv => lhs; whnf)) | ((with_reducible apply qAI); eq_refl; eq_refl; omega; omega)))
                      refine ⟨_, _, ?_, ?_, k + 1, by omega, rfl, rfl⟩
                      · omega
                      · rw [e1, ← hins, insJ_at hsj, qE4 hj]
                        refine qAw [] (by repeat' (first | exact qAG | (refine qAx rfl (by exact SubA.refl _) ?_))) (kpX rfl) rfl (insS rfl) (insX rfl)
          · have hke : k = 4 := by simp at hd; omega
            clear hd
            subst hke
            rw [List.take_of_length_le (by omega)] at hq
            rw [hq] at hfin2
            repeat (first | (with_reducible first | apply qAi | apply qAh | apply qAf | apply qA5 | apply qA9 | apply qA8 | apply qAF) | ((with_reducible apply rp); first | ((with_reducible apply qAd); (conv => lhs; whnf)) | ((with_reducible apply qAI); eq_refl; eq_refl; omega; omega)))
            refine ⟨_, _, ?_, ?_, 1 + 1, by omega, rfl, rfl⟩
            · omega
            · rw [hfin2]
              refine qAw [] (by repeat' (first | exact qAG | (refine qAx rfl (by exact SubA.refl _) ?_))) (kpX rfl) rfl (insS rfl) (insX rfl)
    · have hke : i = 2 := by simp at hd; omega
      clear hd
      subst hke
      have hlm : (accF a b o0 o1 2).length = ((accF a b o0 o1 2).map rowC).length := (List.length_map _).symm
      rw [hlm]
      generalize (accF a b o0 o1 2).map rowC = es at *
      repeat (first | (with_reducible first | apply qAj | apply qAi | apply qAh | apply qAf | apply qA5 | apply qA9 | apply qA8 | apply qAu | apply oe_ret) | ((with_reducible apply rp); first | ((with_reducible apply qAd); (conv => lhs; whnf)) | ((with_reducible apply qAa); (conv => lhs; whnf))))
      (with_reducible apply reto_ok); (focus (repeat' (first | (with_reducible apply qAv) | (with_reducible apply qAq) | ((with_reducible apply qAD); eq_refl)))); (iterate 3 eq_refl)
      rfl
theorem rows_pc (t : Tb) (h : TbOk t) (o0 o1 : Bool) : PC Tryd.prog 14 [.ag t.cs, .ag [bD o0, bD o1]] (.tu [qD6 (accF t.a t.b o0 o1 2), iD 0]) := (rows_pco t h o0 o1).pc
end Go.Proofs.YtpaccaojgbfjdaaDoor


/-
  chirographkeep.tabled as a contract. No condition.
-/
namespace Go.Proofs.YtpaccaojgbfjdaaDoor
open Go.RowKit

abbrev tN : ByteArray := { data := #[116] }
def nxtT (t : Tb) (d : Nat) (r : List Vl) : Tb := if qCe (drF t.a t.b d) 4 < 0 then t else t.put d (qCe (drF t.a t.b d) 4).toNat r
def dwF (q : List Raw) (n : Nat) : Nat := ((qBa q n).a % 2).toNat
noncomputable def tabF (q : List Raw) (cols : List Cl) : Nat → Tb
  | 0 => tbN tN cols
  | i + 1 => nxtT (tabF q cols i) (dwF q (i * (cols.length + 1))) (rowF q (i * (cols.length + 1) + 1) ((i : Int) - 3) 0 cols)
noncomputable def tabC (q : List Raw) (cols : List Cl) (i : Nat) : List D := if i = 0 then tbNl tN cols else (tabF q cols i).cs
theorem dwF_lt (q : List Raw) (n : Nat) : dwF q n < 2 := by unfold dwF; omega
theorem rowF_key {q : List Raw} {n : Nat} {key : Int} {cols : List Cl} (hk : ∃ n l, cols = ⟨n, 2, false⟩ :: l) : keyN (rowF q n key 0 cols) = key := by
  obtain ⟨m, l, rfl⟩ := hk
  rfl
theorem tabF_ok (q : List Raw) {cols : List Cl} (hc : ColsOk cols) (hk : ∃ n l, cols = ⟨n, 2, false⟩ :: l) (h0 : ∀ c, cols[0]? = some c → c.kind = 2) : ∀ i : Nat, TbOk (tabF q cols i) ∧ (tabF q cols i).cols = cols ∧ qDe (tabF q cols i) ((i : Int) - 3)
  | 0 => ⟨tbN_ok (by decide) hc hk, rfl, tbN_keys _ _ _⟩
  | i + 1 => by
    obtain ⟨h1, h2, h3⟩ := tabF_ok q hc hk h0 i
    have hr := rowF_fit q (i * (cols.length + 1) + 1) ((i : Int) - 3) hc h0
    have hkey : keyN (rowF q (i * (cols.length + 1) + 1) ((i : Int) - 3) 0 cols) = (i : Int) - 3 := rowF_key hk
    have hd := dwF_lt q (i * (cols.length + 1))
    rw [tabF]
    generalize rowF q (i * (cols.length + 1) + 1) ((i : Int) - 3) 0 cols = r at *
    generalize dwF q (i * (cols.length + 1)) = d at *
    unfold nxtT
    split
    · exact ⟨h1, h2, h3.mono (by omega)⟩
    · refine ⟨h1.put (by rw [h2]; exact hr) hd (h3.not (by omega) d), by rw [Tb.put_cols, h2], qDe.put (h3.mono (by omega)) (by omega) d _⟩
theorem tabC_sub (q : List Raw) (cols : List Cl) (i : Nat) : qBK (tabC q cols i) (tabF q cols i).cs := by
  unfold tabC
  split
  · rename_i h
    subst h
    exact tbN_sub _ _
  · exact qBK.refl _
theorem frz1sU_map (β : Bx) : ∀ ds : List D, qC7 β (ds.map A.d) = []
  | [] => rfl
  | d :: ds => by rw [List.map_cons, qC7, frz1sU_map β ds]; rfl
theorem frzX_map (β : Bx) (ds : List D) : frzX β (.ag (ds.map A.d)) = .d (.ag ds) := by unfold frzX; rw [qCV]
theorem frzXU_map (β : Bx) (ds : List D) : qC4 β (.ag (ds.map A.d)) = [] := by unfold qC4; rw [qCV]; exact frz1sU_map β ds
theorem frzXsU_three (β : Bx) (ds : List D) (i : Nat) (d : D) (h : qC4 β (.d d) = []) : qCd β [.ag (ds.map A.d), .px i 0, .d d] = [] := by
  show ((([] ++ qC4 β (.d d)) ++ qC4 β (.px i 0)) ++ qC4 β (.ag (ds.map A.d))) = []
  rw [frzXU_map, h]
  rfl
set_option maxHeartbeats 4000000 in
theorem tabled_pg (l : List Raw) : PG Tryd.prog 9 [.d (qBh l)] [] [] (.tu [.d (.ag (tabC (l.take 40) (qCl l) (l.length % 8))), .px 2000 0, .d (bD true)]) []
    [(2000, .var 50 [.d (qBh (l.take 40)), .d (iD (l.length % 8 * ((qCl l).length + 1) : Nat)), .d (qAW (qCl l))])] := by
  have g1 := heapOf_pg l
  have hc := colsF_ok (l.take (l.length % 4))
  have hk : ∃ n l', qCl l = ⟨n, 2, false⟩ :: l' := ⟨_, _, rfl⟩
  have h0 : ∀ c, (qCl l)[0]? = some c → c.kind = 2 := fun c h => by injection h with h; subst h; rfl
  have p8 := qAQ (l.length : Int) 8 (by omega) (by omega)
  rw [show (l.length : Int) % ((8 : Nat) : Int) = ((l.length % 8 : Nat) : Int) by omega] at p8
  have hL8 : l.length % 8 < 8 := Nat.mod_lt _ (by decide)
  unfold qCl at *
  generalize qDw (l.take (l.length % 4)) = cols at *
  have hl5 := hc.len
  generalize l.take 40 = q at *
  obtain ⟨L, hL⟩ : ∃ L, l.length % 8 = L := ⟨_, rfl⟩
  rw [hL] at p8 hL8 ⊢
  clear hL
  have htok := tabF_ok q hc hk h0
  have hsub := tabC_sub q cols
  have hclen : ∀ i, (tabC q cols i).length = 19 := fun i => by
    unfold tabC
    split
    · rfl
    · exact Tb.len (htok i).1
  have hrow := fun (n : Nat) (hn : n ≤ 1000000) (key : Int) => row_px q n cols hl5 (fun c h => (hc.kind c h).2) key hn
  have hnx := fun (n : Nat) (hn : n ≤ 4611686018427387904) => qBU q n cols hn
  unfold hpB at *
  refine pg_of_aw Tryd.func9 rfl (by kernel_rfl) mixed (by kernel_rfl) (qle (by kernel_rfl)) Tryd.results9 rfl ?_
  repeat (first | (with_reducible first | apply qAj | apply qAi | apply qAh | apply qAf | apply qAo) | ((with_reducible apply rp); first | ((with_reducible apply qAg); eq_refl; eq_refl; exact (p8); eq_refl) | ((with_reducible apply qAd); (conv => lhs; whnf)) | ((with_reducible apply qAa); (conv => lhs; whnf)) | ((with_reducible apply qAc); exact tyOk rfl; eq_refl; eq_refl; decide; eq_refl) | ((with_reducible apply qAe); exact tyOk rfl; (iterate 4 eq_refl)) | ((with_reducible apply qA7); exact tyOk rfl; eq_refl; eq_refl) | ((with_reducible apply qAR); exact tyOk rfl; eq_refl; eq_refl; (focus repeat' (first | eq_refl | refine ⟨_, _, rfl, rfl, qle rfl, rfl, ?_⟩)); eq_refl) | ((with_reducible apply qBn); eq_refl)) | ((with_reducible apply rp1); ((with_reducible apply qAk); exact tyOk rfl; eq_refl)) | ((with_reducible apply rpN); ((with_reducible apply qAb); exact tyOk rfl; (iterate 5 eq_refl))) | ((with_reducible apply rpL); (refine qEa [] [(2000, 13)] (ups := [(13, .var 50 [.d (qBh q), .d (iD 0), .d (qAW cols)])]) (v := (.px 13 0)) rfl (g1) rfl ?_ rfl ?_ ?_ rfl rfl rfl rfl rfl ?_ ?_ rfl rfl rfl; (focus repeat' exact trivial); (iterate 4 (focus repeat' (first | exact trivial | exact qAX rfl | apply And.intro)))); exact qAB _))
  refine qBf (fun m s => ∃ i, i ≤ L ∧ m = L - i ∧ s = ⟨[(2, .px 2 0), (5, .px 2000 0), (6, .px 6 0), (7, .d (bD true)), (21, .d (iD L)), (22, .d (iD i))], [(2, .var 30 (tb0.map .d)), (6, .var 30 ((tabC q cols i).map .d)), (2000, .var 50 [.d (qBh q), .d (iD (i * (cols.length + 1) : Nat)), .d (qAW cols)])]⟩) _ _ ?_ ⟨0, by omega, rfl, rfl⟩ ?_
  · rw [Nat.zero_mul]
    refine qAw [(2000, 13)] (by repeat' (first | exact qAG | (refine qAx rfl (by exact SubA.refl _) ?_))) (by repeat' (first | exact trivial | eq_refl | apply And.intro)) rfl (insS rfl) (by repeat' (first | exact trivial | exact qA0 _ | exact qAX rfl | apply And.intro))
  · rintro m s ⟨i, hiL, rfl, rfl⟩
    repeat (first | (with_reducible first | apply qAj | apply qAi | apply qAh | apply qAf) | ((with_reducible apply rp); ((with_reducible apply qAN); eq_refl; eq_refl)))
    refine qAn rfl (fun hd => ?_) (fun hd => ?_)
    · have hlt : i < L := by simp at hd; omega
      clear hd
      obtain ⟨o1, o2, o3⟩ := htok i
      have hb : i * (cols.length + 1) ≤ 8 * 6 := Nat.mul_le_mul (by omega) (by omega)
      have hn2 : (i + 1) * (cols.length + 1) = i * (cols.length + 1) + 1 + cols.length := by rw [Nat.succ_mul]; omega
      have hr := rowF_fit q (i * (cols.length + 1) + 1) ((i : Int) - 3) hc h0
      have hkey : keyN (rowF q (i * (cols.length + 1) + 1) ((i : Int) - 3) 0 cols) = (i : Int) - 3 := rowF_key hk
      have hdl := dwF_lt q (i * (cols.length + 1))
      have hF : tabF q cols (i + 1) = nxtT (tabF q cols i) (dwF q (i * (cols.length + 1))) (rowF q (i * (cols.length + 1) + 1) ((i : Int) - 3) 0 cols) := rfl
      have hC : tabC q cols (i + 1) = (tabF q cols (i + 1)).cs := by unfold tabC; rw [if_neg (by omega)]
      have hC0 : tabC q cols i = (tabF q cols i).cs ∨ qCe (drF (tabF q cols i).a (tabF q cols i).b (dwF q (i * (cols.length + 1)))) 4 = 0 := by
        unfold tabC
        by_cases hi : i = 0
        · right
          subst hi
          unfold drF
          split <;> rfl
        · left
          rw [if_neg hi]
      have i1 := insert_sub (hsub i) o1 _ hdl _ (by rw [o2]; exact hr)
      have hnt := o3.not (r := rowF q (i * (cols.length + 1) + 1) ((i : Int) - 3) 0 cols) (by omega) (dwF q (i * (cols.length + 1)))
      have hput := fun n => Tb.len (o1.put (n := n) (by rw [o2]; exact hr) hdl hnt)
      have r1 := hrow (i * (cols.length + 1) + 1) (by omega) ((i : Int) - 3)
      have n1 := hnx (i * (cols.length + 1)) (by omega)
      have hcl := hclen i
      clear htok hsub hclen hrow hnx
      unfold insD at i1
      rw [if_neg hnt] at i1
      have hdw : (qBa q (i * (cols.length + 1))).a % ((2 : Nat) : Int) = (dwF q (i * (cols.length + 1)) : Nat) := by unfold dwF; omega
      have p2 := qAQ (qBa q (i * (cols.length + 1))).a 2 (by omega) (by omega)
      rw [hdw] at p2
      clear hdw hnt hkey hr o2 o3
      generalize qBa q (i * (cols.length + 1)) = rr at *
      generalize rowF q (i * (cols.length + 1) + 1) ((i : Int) - 3) 0 cols = r at *
      generalize dwF q (i * (cols.length + 1)) = d at *
      generalize tabF q cols i = t at *
      obtain ⟨rk, ra, rb, rt⟩ := rr
      unfold Raw.cs at n1
      dsimp only at *
      generalize i * (cols.length + 1) = n at *
      generalize hcs : tabC q cols i = cs at *
      by_cases hf : qCe (drF t.a t.b d) 4 < 0
      · have hCe : tabC q cols (i + 1) = cs := by
          rcases hC0 with h | h
          · rw [hC, hF]
            unfold nxtT
            rw [if_pos hf, h]
          · omega
        rw [if_pos hf] at i1
        unfold tb0 at i1
        repeat (first | (with_reducible first | apply qAj | apply qAi | apply qAh | apply qAf | apply qA4 | apply qAo | apply qAF | apply qAm) | ((with_reducible apply qBg); (first | kernel_rfl | eq_refl)) | ((first | (with_reducible first | apply rp | apply dr) | ((with_reducible apply rpG); eq_refl; (first | exact qAT rfl | exact qBs rfl); (focus repeat' (first | exact trivial | exact id | apply And.intro)); intro zg; have zh := zg; (try simp only [zs1, zs2, zs3, zs4] at zg))); first | (exact qA3 (tyOk rfl) rfl rfl rfl hcl) | ((with_reducible apply qAg); eq_refl; eq_refl; (first | exact (p2) | exact (i1)); eq_refl) | ((with_reducible first | apply qAd | apply qAa); (conv => lhs; whnf)) | ((with_reducible apply qAM); (iterate 3 eq_refl); (first | exact trivial | exact id)) | ((with_reducible apply qAJ); (iterate 3 eq_refl); (first | exact trivial | exact id)) | ((with_reducible first | apply qAc | apply qAe | apply qAr | apply qAt) <;> first | ((with_reducible apply tyOk); eq_refl) | eq_refl | decide) | ((with_reducible apply qAI); eq_refl; eq_refl; omega; omega) | ((with_reducible apply qCK); eq_refl; eq_refl; omega; omega)) | ((with_reducible first | apply rp1 | apply dr1); ((with_reducible apply qAk); exact tyOk rfl; eq_refl)) | ((with_reducible first | apply rpN | apply drN); ((with_reducible apply qAb); exact tyOk rfl; (iterate 5 eq_refl))) | ((with_reducible first | apply rpL | apply drL); (refine qAC [(1000, 2000)] [(1000, 2000)] (ups := [(2000, .var 50 [.d (qBh q), .d (iD (n + 1 : Nat)), .d (qAW cols)])]) rfl (n1) rfl (kpX rfl) rfl (insX rfl) (insQ rfl) rfl rfl rfl rfl rfl (insX rfl) rfl rfl); exact qAB _) | ((with_reducible first | apply rpL | apply drL); (refine qAC [(1000, 2000)] [(1000, 2000)] (ups := [(2000, .var 50 [.d (qBh q), .d (iD (n + 1 + cols.length : Nat)), .d (qAW cols)])]) rfl (r1) rfl (kpX rfl) rfl (insX rfl) (insQ rfl) rfl rfl rfl rfl rfl (insX rfl) rfl rfl); exact qAB _) | ((with_reducible apply qA6); eq_refl; eq_refl))
        refine ⟨_, _, ?_, ?_, i + 1, by omega, rfl, rfl⟩
        · omega
        · rw [hn2, hCe]
          refine qAw [] (by repeat' (first | exact qAG | (refine qAx rfl (by exact SubA.refl _) ?_))) (by repeat' (first | exact trivial | eq_refl | exact kb_d rfl | apply And.intro)) rfl (insS rfl) (by repeat' (first | exact trivial | exact qA0 _ | exact qAX rfl | apply And.intro))
      · have hCe : tabC q cols (i + 1) = (t.put d (qCe (drF t.a t.b d) 4).toNat r).cs := by
          rw [hC, hF]
          unfold nxtT
          rw [if_neg hf]
        have hpl := hput (qCe (drF t.a t.b d) 4).toNat
        rw [if_neg hf] at i1
        generalize (t.put d (qCe (drF t.a t.b d) 4).toNat r).cs = ps at *
        have hpm : ps.length = (cs.map A.d).length := by rw [List.length_map, hcl, hpl]
        repeat (first | (with_reducible first | apply qAj | apply qAi | apply qAh | apply qAf | apply qA4 | apply qAo | apply qAF | apply qAm) | ((with_reducible apply qBg); (first | kernel_rfl | eq_refl)) | ((first | (with_reducible first | apply rp | apply dr) | ((with_reducible apply rpG); eq_refl; (first | exact qAT rfl | exact qBs rfl); (focus repeat' (first | exact trivial | exact id | apply And.intro | (intro h; simp_all))); intro zg; have zh := zg; (try simp only [zs1, zs2, zs3, zs4] at zg))); first | (exact qA3 (tyOk rfl) rfl rfl rfl hcl) | (exact qA3 (tyOk rfl) rfl rfl rfl hpl) | ((with_reducible apply qAg); eq_refl; eq_refl; exact (p2); eq_refl) | ((with_reducible apply qAK); (iterate 3 eq_refl); exact (i1)) | ((with_reducible first | apply qAd | apply qAa); (conv => lhs; whnf)) | ((with_reducible first | apply qAM | apply qAJ | apply qAc | apply qAe | apply qAr | apply qAt) <;> first | ((with_reducible apply tyOk); eq_refl) | eq_refl | exact id | decide) | ((with_reducible apply qAI); eq_refl; eq_refl; omega; omega) | ((with_reducible apply qCK); eq_refl; eq_refl; omega; omega)) | ((with_reducible first | apply rp1 | apply dr1); ((with_reducible apply qAk); exact tyOk rfl; eq_refl)) | ((with_reducible first | apply rpN | apply drN); first | (exact qAb (tyOk rfl) rfl rfl rfl hpl hpl) | (exact qAb (tyOk rfl) rfl rfl rfl hpl hpm) | ((with_reducible apply qAb); exact tyOk rfl; (iterate 5 eq_refl))) | ((with_reducible first | apply rpL | apply drL); (refine qAC [(1000, 2000)] [(1000, 2000)] (ups := [(2000, .var 50 [.d (qBh q), .d (iD (n + 1 : Nat)), .d (qAW cols)])]) rfl (n1) rfl (kpX rfl) rfl (insX rfl) (insQ rfl) rfl rfl rfl rfl rfl (insX rfl) rfl rfl); exact qAB _) | ((with_reducible first | apply rpL | apply drL); (refine qAC [(1000, 2000)] [(1000, 2000)] (ups := [(2000, .var 50 [.d (qBh q), .d (iD (n + 1 + cols.length : Nat)), .d (qAW cols)])]) rfl (r1) rfl (kpX rfl) rfl (insX rfl) (insQ rfl) rfl rfl rfl rfl rfl (insX rfl) rfl rfl); exact qAB _) | ((with_reducible apply qBq); eq_refl; eq_refl) | ((first | (with_reducible apply rpGP) | (with_reducible apply drGP)); eq_refl; (first | exact qAT rfl | exact qBs rfl); (focus repeat' (first | exact trivial | exact id | apply And.intro | (intro h; simp_all))); (intro zg; have zh := zg; (try simp only [zs1, zs2, zs3, zs4] at zg); first | ((with_reducible first | apply qAJ | apply qAM) <;> first | eq_refl | exact id))))
        refine ⟨_, _, ?_, ?_, i + 1, by omega, rfl, rfl⟩
        · omega
        · rw [hn2, hCe]
          refine qAw [] (by repeat' (first | exact qAG | (refine qAx rfl (by exact SubA.refl _) ?_))) (by repeat' (first | exact trivial | eq_refl | exact kb_d rfl | apply And.intro)) rfl (insS rfl) (by repeat' (first | exact trivial | exact qA0 _ | exact qAX rfl | apply And.intro))
    · have hke : i = L := by simp at hd; omega
      clear hd
      subst hke
      have hcl := hclen i
      generalize tabC q cols i = cs at *
      repeat (first | (with_reducible first | apply qAj | apply qAi | apply qAh | apply qAf | apply qA5 | apply qA9 | apply qA8 | apply qAu | apply xg_ret) | ((with_reducible apply rp); first | (exact qA3 (tyOk rfl) rfl rfl rfl hcl) | ((with_reducible apply qAd); (conv => lhs; whnf)) | ((with_reducible apply qAa); (conv => lhs; whnf))) | ((with_reducible apply rpN); (exact qAb (tyOk rfl) rfl rfl rfl hcl hcl)))
      refine retg_ok (vs := [.ag (cs.map A.d), .px 2000 0, .d (bD true)]) (l := [(2000, 2000)]) ?_ ?_ ?_
      · exact qAq (qAy rfl rfl (tyOk rfl) rfl hcl) (qAq (qAD rfl) (qAq (qAD rfl) qAv))
      · refine SubA.of_eq ?_
        rw [List.map_cons, frzX_map]
        rfl
      · rw [frzXsU_three _ _ _ _ rfl]
        exact ⟨trivial, ⟨rfl, trivial⟩, rfl, trivial, by repeat' (first | exact trivial | exact qAX rfl | apply And.intro)⟩
end Go.Proofs.YtpaccaojgbfjdaaDoor


/-
  chirographkeep: one, both, sameRow, sameRows, tableTells as contracts. No condition.
-/
namespace Go.Proofs.YtpaccaojgbfjdaaDoor
open Go.RowKit

theorem one0_pc : PC Tryd.prog 15 [iD 0] (.ag [bD true, bD false]) := by
  refine qAs Tryd.func15 rfl (by kernel_rfl) mixed (by kernel_rfl) (qle (by kernel_rfl)) Tryd.results15 ?_
  repeat (first | (with_reducible first | apply qAj | apply qAi | apply qAh | apply qAf | apply qAu | apply qAz) | ((with_reducible apply rp); first | ((with_reducible apply qAd); (conv => lhs; whnf)) | ((with_reducible apply qAl); exact tyOk rfl; (iterate 3 eq_refl); exact qle rfl; eq_refl) | ((with_reducible apply qAL); exact tyOk rfl; (iterate 3 eq_refl); (dsimp only; omega); decide; eq_refl)) | ((with_reducible apply rp1); ((with_reducible apply qAk); exact tyOk rfl; eq_refl)) | ((with_reducible apply rpN); first | ((with_reducible apply qBj); exact tyOk rfl; eq_refl; eq_refl; (conv => lhs; whnf); eq_refl; eq_refl; exact qle rfl) | ((with_reducible apply qAb); exact tyOk rfl; (iterate 5 eq_refl))))
  (with_reducible apply qAA); (focus (repeat' (first | (with_reducible apply qAv) | (with_reducible apply qAq) | ((with_reducible apply qAy); eq_refl; eq_refl; exact tyOk rfl; eq_refl; eq_refl)))); eq_refl; refine SubD.of_eq ?_
  rfl
theorem one1_pc : PC Tryd.prog 15 [iD 1] (.ag [bD false, bD true]) := by
  refine qAs Tryd.func15 rfl (by kernel_rfl) mixed (by kernel_rfl) (qle (by kernel_rfl)) Tryd.results15 ?_
  repeat (first | (with_reducible first | apply qAj | apply qAi | apply qAh | apply qAf | apply qAu | apply qAz) | ((with_reducible apply rp); first | ((with_reducible apply qAd); (conv => lhs; whnf)) | ((with_reducible apply qAl); exact tyOk rfl; (iterate 3 eq_refl); exact qle rfl; eq_refl) | ((with_reducible apply qAL); exact tyOk rfl; (iterate 3 eq_refl); (dsimp only; omega); decide; eq_refl)) | ((with_reducible apply rp1); ((with_reducible apply qAk); exact tyOk rfl; eq_refl)) | ((with_reducible apply rpN); first | ((with_reducible apply qBj); exact tyOk rfl; eq_refl; eq_refl; (conv => lhs; whnf); eq_refl; eq_refl; exact qle rfl) | ((with_reducible apply qAb); exact tyOk rfl; (iterate 5 eq_refl))))
  (with_reducible apply qAA); (focus (repeat' (first | (with_reducible apply qAv) | (with_reducible apply qAq) | ((with_reducible apply qAy); eq_refl; eq_refl; exact tyOk rfl; eq_refl; eq_refl)))); eq_refl; refine SubD.of_eq ?_
  rfl
theorem bothD_pc : PC Tryd.prog 31 [] (.ag [bD true, bD true]) := by
  refine qAs Tryd.func31 rfl (by kernel_rfl) mixed (by kernel_rfl) (qle (by kernel_rfl)) Tryd.results31 ?_
  repeat (first | (with_reducible first | apply qAj | apply qAi | apply qAh | apply qAf | apply qAu | apply qAz) | ((with_reducible apply rp); ((with_reducible apply qFr); exact tyOk rfl; eq_refl; (focus repeat' (first | exact pv_nil | (apply pv_cons; (conv => lhs; whnf); eq_refl))); eq_refl; eq_refl)) | ((with_reducible apply rp1); ((with_reducible apply qAk); exact tyOk rfl; eq_refl)) | ((with_reducible apply rpN); ((with_reducible apply qAb); exact tyOk rfl; (iterate 5 eq_refl))))
  (with_reducible apply qAA); (focus (repeat' (first | (with_reducible apply qAv) | (with_reducible apply qAq) | ((with_reducible apply qAy); eq_refl; eq_refl; exact tyOk rfl; eq_refl; eq_refl)))); eq_refl; refine SubD.of_eq ?_
  rfl
theorem tableTells_pc : PC Tryd.prog 13 [] (bD true) := by
  have c1 : PC Tryd.prog 35 [.nl] (qAW (qDw [])) := (cols_pc []).args (qBK.cons (SubD.nil 4) (fun _ => rfl) qBK.nil)
  have hc := colsF_ok []
  have hk : ∃ n l, qDw [] = ⟨n, 2, false⟩ :: l := ⟨_, _, rfl⟩
  have hr : FitR [numV 4] (qDw []) := by
    refine ⟨rfl, fun i v c hv hcc => ?_⟩
    cases i with
    | zero =>
      injection hv with hv
      injection hcc with hcc
      subst hv hcc
      exact ⟨.int 4, .inl rfl⟩
    | succ i => cases hv
  have t0 := tbN_ok (n := { data := #[116] }) (by decide) hc hk
  have i1 := insert_sub (tbN_sub { data := #[116] } (qDw [])) t0 1 (by omega) [numV 4] hr
  have i1 : PC Tryd.prog 12 [.ag (tbNl { data := #[116] } (qDw [])), iD 1, qBx [numV 4]] (.tu [.ag ((tbN { data := #[116] } (qDw [])).put 1 0 [numV 4]).cs, iD 0]) := i1
  have t1 := t0.put (i := 1) (n := 0) (r := [numV 4]) hr (by omega) ((tbN_keys _ _ 4).not (by decide) 1)
  have r1 := rows_pc _ t1 true true
  have r1 : PC Tryd.prog 14 [.ag ((tbN { data := #[116] } (qDw [])).put 1 0 [numV 4]).cs, .ag [bD true, bD true]] (.tu [.sl 1 [[.sl 4 [[iD 2, iD 4, qD 0, strD .empty]]]], iD 0]) := r1
  have b1 := bothD_pc
  have hl := Tb.len t1
  unfold tbNl at i1
  generalize ((tbN { data := #[116] } (qDw [])).put 1 0 [numV 4]).cs = cs at *
  generalize qDw [] = cols at *
  clear t0 t1 hc hk hr
  refine qAs Tryd.func13 rfl (by kernel_rfl) mixed (by kernel_rfl) (qle (by kernel_rfl)) Tryd.results13 ?_
  repeat (first | (with_reducible first | apply qAj | apply qAi | apply qAh | apply qAf | apply qA4 | apply qAu | apply qAz) | ((with_reducible apply qBg); (first | kernel_rfl | eq_refl)) | ((first | (with_reducible first | apply rp | apply dr) | ((with_reducible apply rpG); eq_refl; exact qAT rfl; (focus repeat' (first | exact trivial | exact id | apply And.intro)); intro zg; have zh := zg; (try simp only [zs1, zs2, zs3, zs4] at zg))); first | ((with_reducible apply qAK); (iterate 3 eq_refl); exact (c1)) | ((with_reducible apply qAK); (iterate 3 eq_refl); exact (r1)) | ((with_reducible apply qAg); eq_refl; eq_refl; exact (b1); eq_refl) | (exact qA3 (tyOk rfl) rfl rfl rfl hl) | ((with_reducible first | apply qAd | apply qAa); (conv => lhs; whnf)) | ((with_reducible first | apply qAM | apply qAc | apply qBp | apply qAr | apply qAt | apply qA7) <;> first | ((with_reducible apply tyOk); eq_refl) | eq_refl | exact id | decide) | ((with_reducible apply qAH); exact tyOk rfl; eq_refl; exact tyOk rfl; (iterate 4 eq_refl); (dsimp only; simp only [List.length_map, List.length_append, List.length_cons, List.length_nil] at *; omega)) | ((with_reducible apply qAR); exact tyOk rfl; eq_refl; eq_refl; (focus repeat' (first | eq_refl | refine ⟨_, _, rfl, rfl, qle rfl, rfl, ?_⟩)); eq_refl)) | ((with_reducible apply rp1); first | ((with_reducible apply qEQ); (iterate 3 eq_refl); exact (i1)) | ((with_reducible apply qAk); exact tyOk rfl; eq_refl) | ((with_reducible apply qA2); exact tyOk rfl; eq_refl; exact tyOk rfl; eq_refl; eq_refl; (focus repeat' (first | exact trivial | refine And.intro rfl (And.intro rfl ?_))); decide; decide; eq_refl)) | ((with_reducible apply rpN); (exact qAb (tyOk rfl) rfl rfl rfl hl hl)))
  (with_reducible apply qAA); (focus (repeat' (first | (with_reducible apply qAv) | (with_reducible apply qAq) | ((with_reducible apply qAD); eq_refl)))); eq_refl; refine SubD.of_eq ?_
  rfl
end Go.Proofs.YtpaccaojgbfjdaaDoor


/-
  Rows by rising keys: what a drawer's rows are. No program in sight.
-/
namespace Go.Proofs.YtpaccaojgbfjdaaDoor
open Go.RowKit

theorem qFF {cols : List Cl} {d : List Ce} (h : DrOk cols d) : Rise (qBW true d []) ∧ ∀ x, x ∈ qBW true d [] ↔ ∃ c ∈ d, c.full = true ∧ c.row = x := by
  obtain ⟨s, h1, h2, h3⟩ := qFN [] d [] List.Pairwise.nil (fun _ _ _ p hp => absurd hp (by simp)) h.keys
  have e : qBW true d [] = s := h2
  rw [e]
  exact ⟨h1, fun x => by rw [h3]; simp⟩
end Go.Proofs.YtpaccaojgbfjdaaDoor


/-
  A row that is put in: its cell, the rows by rising keys. No condition.
-/
namespace Go.Proofs.YtpaccaojgbfjdaaDoor
open Go.RowKit

theorem one_both {i : Nat} (hi : i < 2) : ∃ (oa ob : Bool) (j : Nat), j < 2 ∧ (1 : Int) - (i : Int) = (j : Int) ∧ PC Tryd.prog 15 [iD i] (.ag [bD oa, bD ob]) ∧ PC Tryd.prog 15 [iD j] (.ag [bD ob, bD oa]) ∧
    (∀ a b : List Ce, accF a b oa ob 2 = qBW true (drF a b i) []) ∧ (∀ a b : List Ce, accF a b ob oa 2 = qBW true (drF a b j) []) ∧
    (∀ (t : Tb) (n : Nat) (r : List Vl), drF (t.put i n r).a (t.put i n r).b i = (drF t.a t.b i).set n ⟨true, r⟩ ∧ drF (t.put i n r).a (t.put i n r).b j = drF t.a t.b j) := by
  rcases (by omega : i = 0 ∨ i = 1) with rfl | rfl
  · exact ⟨true, false, 1, by omega, rfl, one0_pc, one1_pc, fun a b => rfl, fun a b => rfl, fun t n r => ⟨rfl, rfl⟩⟩
  · exact ⟨false, true, 0, by omega, rfl, one1_pc, one0_pc, fun a b => rfl, fun a b => rfl, fun t n r => ⟨rfl, rfl⟩⟩
theorem TbOk.dr {t : Tb} (h : TbOk t) (i : Nat) : DrOk t.cols (drF t.a t.b i) := by unfold drF; split; exact h.a; exact h.b
theorem qDe.dr {t : Tb} {K : Int} (h : qDe t K) (i : Nat) : ∀ c ∈ drF t.a t.b i, c.full = true → keyN c.row < K := by
  intro c hc hf
  unfold drF at hc
  split at hc
  · exact h c (.inl hc) hf
  · exact h c (.inr hc) hf
end Go.Proofs.YtpaccaojgbfjdaaDoor

