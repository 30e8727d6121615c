/-
  chirograph/table: Rows as a contract.
-/
import Derived.Test.YtpaccaojgbfjdaaDoorZTb5
import Derived.Test.YtpaccaojgbfjdaaDoorZTbR
set_option linter.unusedSimpArgs false
set_option linter.unusedVariables false
namespace Go.Proofs.YtpaccaojgbfjdaaDoor
open Go.RowKit

def accF (a b : List Ce) (o0 o1 : Bool) : Nat → List (List Vl)
  | 0 => []
  | 1 => qBS o0 a []
  | _ => qBS o1 b (qBS o0 a [])
theorem qE3 {l : List (List Vl)} {i : Nat} {r : List Vl} (h : l[i]? = some r) : (l.map rowC)[i]? = some [qBz r] := by rw [List.getElem?_map, h]; rfl
theorem rowC_swap {q : List (List Vl)} {r p : List Vl} {j : Nat} (h : q[j]? = some p) : (((midF q r (j + 1)).map rowC).set (j + 1) [qBz p]).set j [qBz r] = (midF q r j).map rowC := by
  rw [← midF_swap h, List.map_set, List.map_set]
  rfl
set_option maxHeartbeats 8000000 in
theorem rows_pco (t : Tb) (h : TbOk t) (o0 o1 : Bool) : PCO Tryd.prog 14 [.ag t.cs, .ag [bD o0, bD o1]] 24 1 ((accF t.a t.b o0 o1 2).map rowC) [iD 0] := by
  have c1 := check_tb t h
  have hlen := Tb.len h
  obtain ⟨tn, tc, a, b⟩ := t
  obtain ⟨hn, hc, hk, ha, hb⟩ := h
  have hl5 := hc.len
  have ha4 := ha.len
  have hb4 := hb.len
  have hk0 : KeyL (accF a b o0 o1 0) := fun p hp => absurd hp (by unfold accF; simp)
  have hl0 : (accF a b o0 o1 0).length ≤ 0 := Nat.le_refl _
  have hs1 := qFl hk o0 ha.ok hk0
  have hk1 : KeyL (accF a b o0 o1 1) := hs1.1
  have hl1 : (accF a b o0 o1 1).length ≤ 4 := by have := hs1.2; rw [ha4] at this; exact this
  clear hs1
  unfold Tb.cs at *
  dsimp only at *
  refine pco_of_aw Tryd.func14 rfl (by kernel_rfl) mixed (by kernel_rfl) (qle (by kernel_rfl)) Tryd.results14 ?_
  repeat (first | (with_reducible first | apply qAj | apply qAh | apply qAi | apply qAg | apply qAq | apply qAm) | ((with_reducible apply rp); first | (exact qA0 (tyOk rfl) rfl rfl rfl hlen) | ((with_reducible apply qAf); exact rfl; exact rfl; exact (c1); exact rfl) | (exact qEi (a := a) (b := b) (pre := [bD true, strD tn, qAY tc]) (tyOk rfl) rfl rfl rfl rfl rfl ha4 hb4) | ((with_reducible apply qAd); (conv => lhs; whnf)) | ((with_reducible apply qAa); (conv => lhs; whnf)) | ((with_reducible apply qAc); exact tyOk rfl; exact rfl; exact rfl; decide; exact rfl) | ((with_reducible apply qAV); exact rfl; exact rfl)) | ((with_reducible apply rp1); ((with_reducible apply qAn); exact rfl; exact rfl)) | ((with_reducible apply qA9); exact rfl; exact rfl))
  refine qBn (fun m s => ∃ i, i ≤ 2 ∧ m = 2 - i ∧ s = ⟨[(3, .px 3 0), (7, .ow 1000 (accF a b o0 o1 i).length), (20, .d (.ag (a.flatMap Ce.cs ++ b.flatMap Ce.cs))), (21, .d (iD i))], [(3, .var 43 [.d (bD o0), .d (bD o1)]), (1000, .row 24 1 ((accF a b o0 o1 i).map rowC))]⟩) _ _ ?_ ⟨0, by omega, rfl, rfl⟩ ?_
  · refine Ent.trans (ent_nil 7 1000 24 1 rfl rfl) ?_
    refine qAx [] (by repeat' (first | exact qAI | (refine qAD rfl (by exact SubA.refl _) ?_))) (by repeat' (first | exact trivial | exact rfl | refine And.intro ?_ ?_)) rfl (by repeat' (first | exact trivial | exact qA7 rfl | exact qAp rfl | refine And.intro ?_ ?_)) (by repeat' (first | exact trivial | exact qA7 rfl | exact qAp rfl | refine And.intro ?_ ?_))
  · rintro m s ⟨i, hi2, rfl, rfl⟩
    repeat (first | (with_reducible first | apply qAj | apply qAh | apply qAi | apply qAg) | ((with_reducible apply rp); ((with_reducible apply qAU); exact rfl; exact rfl)))
    refine qAo rfl (fun hd => ?_) (fun hd => ?_)
    · have hlt : i < 2 := by simp at hd; omega
      clear hd c1 hlen
      rcases (by omega : i = 0 ∨ i = 1) with rfl | rfl
      · obtain ⟨acc, hacc⟩ : ∃ acc, accF a b o0 o1 0 = acc := ⟨_, rfl⟩
        have hka : KeyL acc := by rw [← hacc]; exact hk0
        have hla : acc.length ≤ 0 := by rw [← hacc]; exact hl0
        have hfin : ∀ d, drF a b 0 = d → accF a b o0 o1 (0 + 1) = qBS o0 d acc := by intro d h; subst h; rw [← hacc]; rfl
        rw [hacc]
        obtain ⟨d, hd⟩ : ∃ d, drF a b 0 = d := ⟨_, rfl⟩
        have hdo : DrOk tc d := by rw [← hd]; exact ha
        have h4 := hdo.len
        have h8 : (d.flatMap Ce.cs).length = 8 := by rw [qBJ, h4]
        have ix := fun (P : Program) (dst : Option Nat) (ty : TypeId) (e : Operand → A) (β : Bx) (T el : TypeId) (x y : Operand) (t te : TyI) (len esz : Nat) (er : Bool) (k : IntKind) (n : Int) (h1 : mkTy P T = some t) (h2 : t.kind = .array len el esz er) (h3 : mkTy P el = some te) (h4 : te.row = true) (h5 : te.size = 8) (h6 : len = 2) (h7 : e x = .d (.ag (a.flatMap Ce.cs ++ b.flatMap Ce.cs))) (h8 : e y = .d (.sc (.int k n))) (h9 : n = ((0 : Nat) : Int)) => by
          have := qDf (P := P) (dst := dst) (ty := ty) (e := e) (β := β) (x := x) (y := y) h1 h2 h3 h4 h5 h6 h7 h8 h9 (by omega) ha4 hb4
          rw [hd] at this
          exact this
        have hfin2 := hfin d hd
        clear hfin hd
        repeat (first | (with_reducible first | apply qAj | apply qAh | apply qAi | apply qAg | apply qAq | apply qAm) | ((with_reducible apply rp); first | (exact ix _ _ _ _ _ _ _ _ _ _ _ _ _ _ _ _ (tyOk rfl) rfl (tyOk rfl) rfl rfl rfl rfl rfl rfl) | (exact qCa (tyOk rfl) rfl rfl rfl rfl h4) | ((with_reducible apply qAd); (conv => lhs; whnf)) | ((with_reducible apply qAa); (conv => lhs; whnf)) | ((with_reducible apply qCI); exact tyOk rfl; exact rfl; exact rfl)) | ((with_reducible apply rp1); ((with_reducible apply qAk); exact tyOk rfl; exact rfl)) | ((with_reducible apply rpN); (exact qAb (tyOk rfl) rfl rfl rfl h8 h8)))
        refine qBn (fun m s => ∃ k, k ≤ 4 ∧ m = 4 - k ∧ s = ⟨[(3, .px 3 0), (7, .ow 1000 (qBS o0 (d.take k) acc).length), (8, .d (iD 0)), (10, .d (iD acc.length)), (20, .d (.ag (a.flatMap Ce.cs ++ b.flatMap Ce.cs))), (21, .d (iD 0)), (27, .d (.ag (d.flatMap Ce.cs))), (28, .d (iD k))], [(3, .var 43 [.d (bD o0), .d (bD o1)]), (1000, .row 24 1 ((qBS o0 (d.take k) acc).map rowC))]⟩) _ _ ?_ ⟨0, by omega, rfl, rfl⟩ ?_
        · rw [stepF_zero]
          refine qAx [] (by repeat' (first | exact qAI | (refine qAD rfl (by exact SubA.refl _) ?_))) (by repeat' (first | exact trivial | exact rfl | refine And.intro ?_ ?_)) rfl (by repeat' (first | exact trivial | exact qA7 rfl | exact qAp rfl | refine And.intro ?_ ?_)) (by repeat' (first | exact trivial | exact qA7 rfl | exact qAp rfl | refine And.intro ?_ ?_))
        · rintro m s ⟨k, hk4, rfl, rfl⟩
          have hst := qFl hk o0 (d := d.take k) (fun c hc => hdo.ok c (List.mem_of_mem_take hc)) hka
          obtain ⟨q, hq⟩ : ∃ q, qBS o0 (d.take k) acc = q := ⟨_, rfl⟩
          rw [hq] at hst ⊢
          obtain ⟨hkq, hlq⟩ := hst
          rw [List.length_take] at hlq
          have hq8 : q.length ≤ 8 := by omega
          repeat (first | (with_reducible first | apply qAj | apply qAh | apply qAi | apply qAg) | ((with_reducible apply rp); ((with_reducible apply qAU); exact rfl; exact rfl)))
          refine qAo rfl (fun hd => ?_) (fun hd => ?_)
          · have hlt4 : k < 4 := by simp at hd; omega
            clear hd
            obtain ⟨c, hcc⟩ : ∃ c, d[k]? = some c := ⟨_, List.getElem?_eq_getElem (by omega)⟩
            have hco := hdo.ok c (List.mem_of_getElem? hcc)
            cases o0 with
            | false =>
              have e1 : qBS false (d.take (k + 1)) acc = q := by rw [← hq]; rfl
              repeat (first | (with_reducible first | apply qAj | apply qAh | apply qAi | apply qAg | apply qAq | apply qBd | apply qBa | apply qBc | apply qAm) | ((first | (with_reducible apply rp) | ((with_reducible apply rpG); exact rfl; exact qAR rfl; (focus repeat' (first | exact trivial | exact fun h => h | refine And.intro ?_ ?_)); intro hgd; have hgd0 := hgd; (try simp only [decide_eq_true_eq, Bool.and_eq_true, Bool.not_eq_true', beq_iff_eq] at hgd))); first | (exact qBr (d := d) (c := c) (tyOk rfl) rfl (tyOk rfl) rfl rfl rfl rfl rfl h4 hcc) | ((with_reducible apply qAd); (conv => lhs; whnf)) | ((with_reducible first | apply qAK | apply qAc | apply qAe | apply qAX) <;> first | ((with_reducible apply tyOk); exact rfl) | exact rfl | exact fun h => h | decide) | ((with_reducible apply qAL); exact tyOk rfl; (iterate 3 exact rfl); omega; decide; exact rfl) | ((with_reducible apply qAJ); exact rfl; exact rfl; omega; omega)) | ((with_reducible apply rp1); ((with_reducible apply qAk); exact tyOk rfl; exact rfl)) | ((with_reducible apply rpN); ((with_reducible apply qAb); exact tyOk rfl; (iterate 5 exact rfl))) | ((with_reducible apply qBo); exact rfl; exact rfl))
              refine ⟨_, _, ?_, ?_, k + 1, by omega, rfl, rfl⟩
              · omega
              · rw [e1]
                refine qAx [] (by repeat' (first | exact qAI | (refine qAD rfl (by exact SubA.refl _) ?_))) (by repeat' (first | exact trivial | exact rfl | refine And.intro ?_ ?_)) rfl (by repeat' (first | exact trivial | exact qA7 rfl | exact qAp rfl | refine And.intro ?_ ?_)) (by repeat' (first | exact trivial | exact qA7 rfl | exact qAp rfl | refine And.intro ?_ ?_))
            | true =>
              obtain ⟨cf, cr⟩ := c
              cases cf with
              | false =>
                have e1 : qBS true (d.take (k + 1)) acc = q := by rw [stepF_free hcc, hq]
                repeat (first | (with_reducible first | apply qAj | apply qAh | apply qAi | apply qAg | apply qAq | apply qBd | apply qBa | apply qBc | apply qAm) | ((first | (with_reducible apply rp) | ((with_reducible apply rpG); exact rfl; exact qAR rfl; (focus repeat' (first | exact trivial | exact fun h => h | refine And.intro ?_ ?_)); intro hgd; have hgd0 := hgd; (try simp only [decide_eq_true_eq, Bool.and_eq_true, Bool.not_eq_true', beq_iff_eq] at hgd))); first | (exact qBr (d := d) (c := ⟨false, cr⟩) (tyOk rfl) rfl (tyOk rfl) rfl rfl rfl rfl rfl h4 hcc) | ((with_reducible apply qAd); (conv => lhs; whnf)) | ((with_reducible first | apply qAK | apply qAc | apply qAe | apply qAX) <;> first | ((with_reducible apply tyOk); exact rfl) | exact rfl | exact fun h => h | decide) | ((with_reducible apply qAL); exact tyOk rfl; (iterate 3 exact rfl); omega; decide; exact rfl) | ((with_reducible apply qAJ); exact rfl; exact rfl; omega; omega)) | ((with_reducible apply rp1); ((with_reducible apply qAk); exact tyOk rfl; exact rfl)) | ((with_reducible apply rpN); ((with_reducible apply qAb); exact tyOk rfl; (iterate 5 exact rfl))) | ((with_reducible apply qBo); exact rfl; exact rfl))
                refine ⟨_, _, ?_, ?_, k + 1, by omega, rfl, rfl⟩
                · omega
                · rw [e1]
                  refine qAx [] (by repeat' (first | exact qAI | (refine qAD rfl (by exact SubA.refl _) ?_))) (by repeat' (first | exact trivial | exact rfl | refine And.intro ?_ ?_)) rfl (by repeat' (first | exact trivial | exact qA7 rfl | exact qAp rfl | refine And.intro ?_ ?_)) (by repeat' (first | exact trivial | exact qA7 rfl | exact qAp rfl | refine And.intro ?_ ?_))
              | true =>
                obtain ⟨kr, lr, e0⟩ := qDx (hco.fit rfl) hk
                dsimp only at e0
                subst e0
                have t1 := qCP (numV kr :: lr) (by have := (hco.fit rfl).len; dsimp only at this; omega)
                have e1 : qBS true (d.take (k + 1)) acc = insF q acc.length (numV kr :: lr) := by rw [stepF_full hcc, hq]
                have l1 : (q.map rowC).length = q.length := List.length_map _
                repeat (first | (with_reducible first | apply qAj | apply qAh | apply qAi | apply qAg | apply qAq | apply qAm) | ((first | (with_reducible apply rp) | ((with_reducible apply rpG); exact rfl; exact qAR rfl; (focus repeat' (first | exact trivial | exact fun h => h | refine And.intro ?_ ?_)); intro hgd; have hgd0 := hgd; (try simp only [decide_eq_true_eq, Bool.and_eq_true, Bool.not_eq_true', beq_iff_eq] at hgd))); first | (exact qBr (d := d) (c := ⟨true, numV kr :: lr⟩) (tyOk rfl) rfl (tyOk rfl) rfl rfl rfl rfl rfl h4 hcc) | ((with_reducible apply qAP); (iterate 3 exact rfl); exact (t1)) | (exact qA4 (z := (q.length : Int)) rfl rfl (by simp) (by omega) (by omega)) | ((with_reducible first | apply qAd | apply qAa); (conv => lhs; whnf)) | ((with_reducible first | apply qAK | apply qAc | apply qAe | apply qAX | apply qCI) <;> first | ((with_reducible apply tyOk); exact rfl) | exact rfl | exact fun h => h | decide) | ((with_reducible apply qAL); exact tyOk rfl; (iterate 3 exact rfl); (first | omega | (dsimp only; simp only [List.length_map, List.length_append, List.length_cons, List.length_nil] at *; omega) | (simp only [List.length_map, List.length_append, List.length_cons, List.length_nil] at *; omega)); decide; exact rfl)) | ((with_reducible apply rp1); first | ((with_reducible apply qAk); exact tyOk rfl; exact rfl) | ((with_reducible apply qA6); exact tyOk rfl; exact rfl; exact tyOk rfl; exact rfl; exact rfl; (focus repeat' (first | exact trivial | refine And.intro rfl (And.intro rfl ?_))); decide; decide; exact rfl)) | ((with_reducible apply rp2); ((with_reducible apply qBx); exact tyOk rfl; exact rfl; exact tyOk rfl; (iterate 3 exact rfl); decide; (first | omega | (dsimp only; simp only [List.length_map, List.length_append, List.length_cons, List.length_nil] at *; omega) | (simp only [List.length_map, List.length_append, List.length_cons, List.length_nil] at *; omega)); (first | omega | (dsimp only; simp only [List.length_map, List.length_append, List.length_cons, List.length_nil] at *; omega) | (simp only [List.length_map, List.length_append, List.length_cons, List.length_nil] at *; omega)); exact rfl)) | ((with_reducible apply rpN); ((with_reducible apply qAb); exact tyOk rfl; (iterate 5 exact rfl))) | ((with_reducible apply qA9); exact rfl; exact rfl))
                refine qBn (fun m s => ∃ j, j ≤ q.length ∧ j = m ∧ insJ q acc.length (numV kr :: lr) j = insF q acc.length (numV kr :: lr) ∧ s = ⟨[(3, .px 3 0), (7, .ow 1000 (q.length + 1)), (8, .d (iD 0)), (10, .d (iD acc.length)), (13, .d (iD j)), (20, .d (.ag (a.flatMap Ce.cs ++ b.flatMap Ce.cs))), (21, .d (iD 0)), (27, .d (.ag (d.flatMap Ce.cs))), (28, .d (iD k))], [(3, .var 43 [.d (bD true), .d (bD o1)]), (1000, .row 24 1 ((midF q (numV kr :: lr) j).map rowC))]⟩) _ _ ?_ ⟨q.length, Nat.le_refl _, rfl, rfl, rfl⟩ ?_
                · rw [midF_end, List.map_append]
                  refine qAx [(1000, 45)] (by repeat' (first | exact qAI | (refine qAD rfl (by (first | exact SubA.refl _ | exact qDE (by (simp; done)))) ?_))) ?_ rfl (by repeat' (first | exact trivial | exact qA7 rfl | exact qAp rfl | refine And.intro ?_ ?_)) (by repeat' (first | exact trivial | exact qA7 rfl | exact qAp rfl | refine And.intro ?_ ?_))
                  exact qCt rfl rfl (qCt rfl (qE9 rfl) qFb)
                · rintro m s ⟨j, hj, rfl, hins, rfl⟩
                  clear t1 l1
                  by_cases hsj : acc.length < j
                  · obtain ⟨j, rfl⟩ : ∃ i, j = i + 1 := ⟨j - 1, by omega⟩
                    obtain ⟨p, hp⟩ : ∃ p, q[j]? = some p := ⟨_, List.getElem?_eq_getElem (by omega)⟩
                    obtain ⟨kp, lp, e0⟩ := hkq p (List.mem_of_getElem? hp)
                    subst e0
                    have g1 := qE3 (midF_at (r := numV kr :: lr) hj)
                    have g2 := qE3 (midF_pre (r := numV kr :: lr) hp)
                    have g3 := rowC_swap (r := numV kr :: lr) hp
                    have hgr : ((numV kr :: lr).map Vl.cs)[0]? = some [iD 2, iD kr, qD 0, strD .empty] := rfl
                    have hgp : ((numV kp :: lp).map Vl.cs)[0]? = some [iD 2, iD kp, qD 0, strD .empty] := rfl
                    have hgt : decide (((j + 1 : Nat) : Int) > (acc.length : Int)) = true := by rw [decide_eq_true_eq]; omega
                    obtain ⟨es, hes⟩ : ∃ es, (midF q (numV kr :: lr) (j + 1)).map rowC = es := ⟨_, rfl⟩
                    rw [hes] at g1 g2 g3 ⊢
                    have g4 : (es.set (j + 1) [qBz (numV kp :: lp)])[j]? = some [qBz (numV kp :: lp)] := by rw [List.getElem?_set_ne (by omega), g2]
                    repeat (first | (with_reducible first | apply qAj | apply qAg | apply qA5) | ((with_reducible apply qBh); (first | kernel_rfl | exact rfl)) | ((first | (with_reducible apply dr) | ((with_reducible apply drG); exact rfl; exact qAZ rfl; (focus repeat' (first | exact trivial | exact fun h => h | refine And.intro ?_ ?_)); intro hgd; have hgd0 := hgd; (try simp only [decide_eq_true_eq, Bool.and_eq_true, Bool.not_eq_true', beq_iff_eq] at hgd))); first | (exact qA4 (z := (j : Int)) rfl rfl (by omega) (by omega) (by omega)) | ((with_reducible apply qAd); (conv => lhs; whnf)) | ((with_reducible first | apply qAQ | apply qAc | apply qAU | apply qBH) <;> first | ((with_reducible apply tyOk); exact rfl) | exact rfl | exact fun h => h | decide) | ((with_reducible apply qBB); exact tyOk rfl; exact rfl; exact rfl; assumption; exact rfl) | ((with_reducible apply qCT); exact tyOk rfl; (iterate 3 exact rfl); assumption; exact rfl) | ((with_reducible apply qAM); exact tyOk rfl; exact rfl; exact tyOk rfl; (iterate 4 exact rfl); (first | omega | (dsimp only; simp only [List.length_map, List.length_append, List.length_cons, List.length_nil] at *; omega))) | ((with_reducible apply qCb); exact tyOk rfl; exact rfl; exact tyOk rfl; (iterate 3 exact rfl); (first | omega | (dsimp only; simp only [List.length_map, List.length_append, List.length_cons, List.length_nil] at *; omega)))))
                    refine qAo rfl (fun hd => ?_) (fun hd => ?_)
                    · have hlt : kr < kp := by simp at hd; omega
                      clear hd
                      repeat (first | (with_reducible first | apply qAj | apply qAh | apply qAi | apply qAg | apply qA5 | apply qAq | apply qAF | apply qAm) | ((with_reducible apply qBh); (first | kernel_rfl | exact rfl)) | ((with_reducible first | apply rp | apply dr); first | (exact qA4 (z := (j : Int)) rfl rfl (by omega) (by omega) (by omega)) | ((with_reducible first | apply qAd | apply qAa); (conv => lhs; whnf)) | ((with_reducible apply qCT); exact tyOk rfl; (iterate 3 exact rfl); assumption; exact rfl) | ((with_reducible apply qCb); exact tyOk rfl; exact rfl; exact tyOk rfl; (iterate 3 exact rfl); omega)) | ((with_reducible apply drN); ((with_reducible apply qD6); exact tyOk rfl; (iterate 4 exact rfl); assumption; exact rfl; exact qle rfl)))
                      refine ⟨_, _, ?_, ?_, j, by omega, rfl, ?_, rfl⟩
                      · omega
                      · rw [← g3]
                        refine qAx [] (by repeat' (first | exact qAI | (refine qAD rfl (by exact SubA.refl _) ?_))) (by repeat' (first | exact trivial | exact rfl | refine And.intro ?_ ?_)) rfl (by repeat' (first | exact trivial | exact qA7 rfl | exact qAp rfl | refine And.intro ?_ ?_)) (by repeat' (first | exact trivial | exact qA7 rfl | exact qAp rfl | refine And.intro ?_ ?_))
                      · rw [← hins, insJ_down (r := numV kr :: lr) hp hsj hlt]
                    · have hlt : ¬ kr < kp := by simp at hd; omega
                      clear hd
                      repeat (first | (with_reducible first | apply qAh | apply qAi | apply qAg | apply qBd | apply qBa | apply qBc | apply qAF) | ((with_reducible apply rp); first | ((with_reducible apply qAd); (conv => lhs; whnf)) | ((with_reducible apply qAJ); exact rfl; exact rfl; omega; omega)))
                      refine ⟨_, _, ?_, ?_, k + 1, by omega, rfl, rfl⟩
                      · omega
                      · rw [e1, ← hins, insJ_here (r := numV kr :: lr) hp hlt, qFz hj, hes]
                        refine qAx [] (by repeat' (first | exact qAI | (refine qAD rfl (by exact SubA.refl _) ?_))) (by repeat' (first | exact trivial | exact rfl | refine And.intro ?_ ?_)) rfl (by repeat' (first | exact trivial | exact qA7 rfl | exact qAp rfl | refine And.intro ?_ ?_)) (by repeat' (first | exact trivial | exact qA7 rfl | exact qAp rfl | refine And.intro ?_ ?_))
                  · have hff : decide ((j : Int) > (acc.length : Int)) = false := by rw [decide_eq_false_iff_not]; omega
                    repeat (first | (with_reducible first | apply qAj | apply qAg | apply qA5) | ((with_reducible apply qBh); (first | kernel_rfl | exact rfl)) | ((first | (with_reducible apply dr) | ((with_reducible apply drG); exact rfl; exact qAZ rfl; (focus repeat' (first | exact trivial | exact fun h => h | refine And.intro ?_ ?_)); intro hgd; have hgd0 := hgd; (try simp only [decide_eq_true_eq, Bool.and_eq_true, Bool.not_eq_true', beq_iff_eq] at hgd))); first | ((with_reducible apply qAd); (conv => lhs; whnf)) | ((with_reducible apply qCd); exact rfl; (first | assumption | decide); (conv => lhs; whnf)) | ((with_reducible apply qCb); exact tyOk rfl; exact rfl; exact tyOk rfl; (iterate 3 exact rfl); omega) | ((with_reducible apply qBH); exact rfl; exact rfl) | ((with_reducible apply qCM); exact rfl; exact rfl; omega; omega)) | ((first | (with_reducible apply rpGF) | (with_reducible apply drGF)); exact rfl; exact qAZ rfl; (first | assumption | decide | exact rfl); (focus repeat' (first | exact trivial | exact fun h => h | refine And.intro ?_ ?_))))
                    refine qAo rfl (fun hd => ?_) (fun hd => ?_)
                    · exfalso
                      simp at hd <;> omega
                    · clear hd
                      repeat (first | (with_reducible first | apply qAh | apply qAi | apply qAg | apply qBd | apply qBa | apply qBc | apply qAF) | ((with_reducible apply rp); first | ((with_reducible apply qAd); (conv => lhs; whnf)) | ((with_reducible apply qAJ); exact rfl; exact rfl; omega; omega)))
                      refine ⟨_, _, ?_, ?_, k + 1, by omega, rfl, rfl⟩
                      · omega
                      · rw [e1, ← hins, insJ_at hsj, qFz hj]
                        refine qAx [] (by repeat' (first | exact qAI | (refine qAD rfl (by exact SubA.refl _) ?_))) (by repeat' (first | exact trivial | exact rfl | refine And.intro ?_ ?_)) rfl (by repeat' (first | exact trivial | exact qA7 rfl | exact qAp rfl | refine And.intro ?_ ?_)) (by repeat' (first | exact trivial | exact qA7 rfl | exact qAp rfl | refine And.intro ?_ ?_))
          · have hke : k = 4 := by simp at hd; omega
            clear hd
            subst hke
            rw [List.take_of_length_le (by omega)] at hq
            rw [hq] at hfin2
            repeat (first | (with_reducible first | apply qAh | apply qAi | apply qAg | apply qBd | apply qBa | apply qBc | apply qAF) | ((with_reducible apply rp); first | ((with_reducible apply qAd); (conv => lhs; whnf)) | ((with_reducible apply qAJ); exact rfl; exact rfl; omega; omega)))
            refine ⟨_, _, ?_, ?_, 0 + 1, by omega, rfl, rfl⟩
            · omega
            · rw [hfin2]
              refine qAx [] (by repeat' (first | exact qAI | (refine qAD rfl (by exact SubA.refl _) ?_))) (by repeat' (first | exact trivial | exact rfl | refine And.intro ?_ ?_)) rfl (by repeat' (first | exact trivial | exact qA7 rfl | exact qAp rfl | refine And.intro ?_ ?_)) (by repeat' (first | exact trivial | exact qA7 rfl | exact qAp rfl | refine And.intro ?_ ?_))
      · obtain ⟨acc, hacc⟩ : ∃ acc, accF a b o0 o1 1 = acc := ⟨_, rfl⟩
        have hka : KeyL acc := by rw [← hacc]; exact hk1
        have hla : acc.length ≤ 4 := by rw [← hacc]; exact hl1
        have hfin : ∀ d, drF a b 1 = d → accF a b o0 o1 (1 + 1) = qBS o1 d acc := by intro d h; subst h; rw [← hacc]; rfl
        rw [hacc]
        obtain ⟨d, hd⟩ : ∃ d, drF a b 1 = d := ⟨_, rfl⟩
        have hdo : DrOk tc d := by rw [← hd]; exact hb
        have h4 := hdo.len
        have h8 : (d.flatMap Ce.cs).length = 8 := by rw [qBJ, h4]
        have ix := fun (P : Program) (dst : Option Nat) (ty : TypeId) (e : Operand → A) (β : Bx) (T el : TypeId) (x y : Operand) (t te : TyI) (len esz : Nat) (er : Bool) (k : IntKind) (n : Int) (h1 : mkTy P T = some t) (h2 : t.kind = .array len el esz er) (h3 : mkTy P el = some te) (h4 : te.row = true) (h5 : te.size = 8) (h6 : len = 2) (h7 : e x = .d (.ag (a.flatMap Ce.cs ++ b.flatMap Ce.cs))) (h8 : e y = .d (.sc (.int k n))) (h9 : n = ((1 : Nat) : Int)) => by
          have := qDf (P := P) (dst := dst) (ty := ty) (e := e) (β := β) (x := x) (y := y) h1 h2 h3 h4 h5 h6 h7 h8 h9 (by omega) ha4 hb4
          rw [hd] at this
          exact this
        have hfin2 := hfin d hd
        clear hfin hd
        repeat (first | (with_reducible first | apply qAj | apply qAh | apply qAi | apply qAg | apply qAq | apply qAm) | ((with_reducible apply rp); first | (exact ix _ _ _ _ _ _ _ _ _ _ _ _ _ _ _ _ (tyOk rfl) rfl (tyOk rfl) rfl rfl rfl rfl rfl rfl) | (exact qCa (tyOk rfl) rfl rfl rfl rfl h4) | ((with_reducible apply qAd); (conv => lhs; whnf)) | ((with_reducible apply qAa); (conv => lhs; whnf)) | ((with_reducible apply qCI); exact tyOk rfl; exact rfl; exact rfl)) | ((with_reducible apply rp1); ((with_reducible apply qAk); exact tyOk rfl; exact rfl)) | ((with_reducible apply rpN); (exact qAb (tyOk rfl) rfl rfl rfl h8 h8)))
        refine qBn (fun m s => ∃ k, k ≤ 4 ∧ m = 4 - k ∧ s = ⟨[(3, .px 3 0), (7, .ow 1000 (qBS o1 (d.take k) acc).length), (8, .d (iD 1)), (10, .d (iD acc.length)), (20, .d (.ag (a.flatMap Ce.cs ++ b.flatMap Ce.cs))), (21, .d (iD 1)), (27, .d (.ag (d.flatMap Ce.cs))), (28, .d (iD k))], [(3, .var 43 [.d (bD o0), .d (bD o1)]), (1000, .row 24 1 ((qBS o1 (d.take k) acc).map rowC))]⟩) _ _ ?_ ⟨0, by omega, rfl, rfl⟩ ?_
        · rw [stepF_zero]
          refine qAx [] (by repeat' (first | exact qAI | (refine qAD rfl (by exact SubA.refl _) ?_))) (by repeat' (first | exact trivial | exact rfl | refine And.intro ?_ ?_)) rfl (by repeat' (first | exact trivial | exact qA7 rfl | exact qAp rfl | refine And.intro ?_ ?_)) (by repeat' (first | exact trivial | exact qA7 rfl | exact qAp rfl | refine And.intro ?_ ?_))
        · rintro m s ⟨k, hk4, rfl, rfl⟩
          have hst := qFl hk o1 (d := d.take k) (fun c hc => hdo.ok c (List.mem_of_mem_take hc)) hka
          obtain ⟨q, hq⟩ : ∃ q, qBS o1 (d.take k) acc = q := ⟨_, rfl⟩
          rw [hq] at hst ⊢
          obtain ⟨hkq, hlq⟩ := hst
          rw [List.length_take] at hlq
          have hq8 : q.length ≤ 8 := by omega
          repeat (first | (with_reducible first | apply qAj | apply qAh | apply qAi | apply qAg) | ((with_reducible apply rp); ((with_reducible apply qAU); exact rfl; exact rfl)))
          refine qAo rfl (fun hd => ?_) (fun hd => ?_)
          · have hlt4 : k < 4 := by simp at hd; omega
            clear hd
            obtain ⟨c, hcc⟩ : ∃ c, d[k]? = some c := ⟨_, List.getElem?_eq_getElem (by omega)⟩
            have hco := hdo.ok c (List.mem_of_getElem? hcc)
            cases o1 with
            | false =>
              have e1 : qBS false (d.take (k + 1)) acc = q := by rw [← hq]; rfl
              repeat (first | (with_reducible first | apply qAj | apply qAh | apply qAi | apply qAg | apply qAq | apply qBd | apply qBa | apply qBc | apply qAm) | ((first | (with_reducible apply rp) | ((with_reducible apply rpG); exact rfl; exact qAR rfl; (focus repeat' (first | exact trivial | exact fun h => h | refine And.intro ?_ ?_)); intro hgd; have hgd0 := hgd; (try simp only [decide_eq_true_eq, Bool.and_eq_true, Bool.not_eq_true', beq_iff_eq] at hgd))); first | (exact qBr (d := d) (c := c) (tyOk rfl) rfl (tyOk rfl) rfl rfl rfl rfl rfl h4 hcc) | ((with_reducible apply qAd); (conv => lhs; whnf)) | ((with_reducible first | apply qAK | apply qAc | apply qAe | apply qAX) <;> first | ((with_reducible apply tyOk); exact rfl) | exact rfl | exact fun h => h | decide) | ((with_reducible apply qAL); exact tyOk rfl; (iterate 3 exact rfl); omega; decide; exact rfl) | ((with_reducible apply qAJ); exact rfl; exact rfl; omega; omega)) | ((with_reducible apply rp1); ((with_reducible apply qAk); exact tyOk rfl; exact rfl)) | ((with_reducible apply rpN); ((with_reducible apply qAb); exact tyOk rfl; (iterate 5 exact rfl))) | ((with_reducible apply qBo); exact rfl; exact rfl))
              refine ⟨_, _, ?_, ?_, k + 1, by omega, rfl, rfl⟩
              · omega
              · rw [e1]
                refine qAx [] (by repeat' (first | exact qAI | (refine qAD rfl (by exact SubA.refl _) ?_))) (by repeat' (first | exact trivial | exact rfl | refine And.intro ?_ ?_)) rfl (by repeat' (first | exact trivial | exact qA7 rfl | exact qAp rfl | refine And.intro ?_ ?_)) (by repeat' (first | exact trivial | exact qA7 rfl | exact qAp rfl | refine And.intro ?_ ?_))
            | true =>
              obtain ⟨cf, cr⟩ := c
              cases cf with
              | false =>
                have e1 : qBS true (d.take (k + 1)) acc = q := by rw [stepF_free hcc, hq]
                repeat (first | (with_reducible first | apply qAj | apply qAh | apply qAi | apply qAg | apply qAq | apply qBd | apply qBa | apply qBc | apply qAm) | ((first | (with_reducible apply rp) | ((with_reducible apply rpG); exact rfl; exact qAR rfl; (focus repeat' (first | exact trivial | exact fun h => h | refine And.intro ?_ ?_)); intro hgd; have hgd0 := hgd; (try simp only [decide_eq_true_eq, Bool.and_eq_true, Bool.not_eq_true', beq_iff_eq] at hgd))); first | (exact qBr (d := d) (c := ⟨false, cr⟩) (tyOk rfl) rfl (tyOk rfl) rfl rfl rfl rfl rfl h4 hcc) | ((with_reducible apply qAd); (conv => lhs; whnf)) | ((with_reducible first | apply qAK | apply qAc | apply qAe | apply qAX) <;> first | ((with_reducible apply tyOk); exact rfl) | exact rfl | exact fun h => h | decide) | ((with_reducible apply qAL); exact tyOk rfl; (iterate 3 exact rfl); omega; decide; exact rfl) | ((with_reducible apply qAJ); exact rfl; exact rfl; omega; omega)) | ((with_reducible apply rp1); ((with_reducible apply qAk); exact tyOk rfl; exact rfl)) | ((with_reducible apply rpN); ((with_reducible apply qAb); exact tyOk rfl; (iterate 5 exact rfl))) | ((with_reducible apply qBo); exact rfl; exact rfl))
                refine ⟨_, _, ?_, ?_, k + 1, by omega, rfl, rfl⟩
                · omega
                · rw [e1]
                  refine qAx [] (by repeat' (first | exact qAI | (refine qAD rfl (by exact SubA.refl _) ?_))) (by repeat' (first | exact trivial | exact rfl | refine And.intro ?_ ?_)) rfl (by repeat' (first | exact trivial | exact qA7 rfl | exact qAp rfl | refine And.intro ?_ ?_)) (by repeat' (first | exact trivial | exact qA7 rfl | exact qAp rfl | refine And.intro ?_ ?_))
              | true =>
                obtain ⟨kr, lr, e0⟩ := qDx (hco.fit rfl) hk
                dsimp only at e0
                subst e0
                have t1 := qCP (numV kr :: lr) (by have := (hco.fit rfl).len; dsimp only at this; omega)
                have e1 : qBS true (d.take (k + 1)) acc = insF q acc.length (numV kr :: lr) := by rw [stepF_full hcc, hq]
                have l1 : (q.map rowC).length = q.length := List.length_map _
                repeat (first | (with_reducible first | apply qAj | apply qAh | apply qAi | apply qAg | apply qAq | apply qAm) | ((first | (with_reducible apply rp) | ((with_reducible apply rpG); exact rfl; exact qAR rfl; (focus repeat' (first | exact trivial | exact fun h => h | refine And.intro ?_ ?_)); intro hgd; have hgd0 := hgd; (try simp only [decide_eq_true_eq, Bool.and_eq_true, Bool.not_eq_true', beq_iff_eq] at hgd))); first | (exact qBr (d := d) (c := ⟨true, numV kr :: lr⟩) (tyOk rfl) rfl (tyOk rfl) rfl rfl rfl rfl rfl h4 hcc) | ((with_reducible apply qAP); (iterate 3 exact rfl); exact (t1)) | (exact qA4 (z := (q.length : Int)) rfl rfl (by simp) (by omega) (by omega)) | ((with_reducible first | apply qAd | apply qAa); (conv => lhs; whnf)) | ((with_reducible first | apply qAK | apply qAc | apply qAe | apply qAX | apply qCI) <;> first | ((with_reducible apply tyOk); exact rfl) | exact rfl | exact fun h => h | decide) | ((with_reducible apply qAL); exact tyOk rfl; (iterate 3 exact rfl); (first | omega | (dsimp only; simp only [List.length_map, List.length_append, List.length_cons, List.length_nil] at *; omega) | (simp only [List.length_map, List.length_append, List.length_cons, List.length_nil] at *; omega)); decide; exact rfl)) | ((with_reducible apply rp1); first | ((with_reducible apply qAk); exact tyOk rfl; exact rfl) | ((with_reducible apply qA6); exact tyOk rfl; exact rfl; exact tyOk rfl; exact rfl; exact rfl; (focus repeat' (first | exact trivial | refine And.intro rfl (And.intro rfl ?_))); decide; decide; exact rfl)) | ((with_reducible apply rp2); ((with_reducible apply qBx); exact tyOk rfl; exact rfl; exact tyOk rfl; (iterate 3 exact rfl); decide; (first | omega | (dsimp only; simp only [List.length_map, List.length_append, List.length_cons, List.length_nil] at *; omega) | (simp only [List.length_map, List.length_append, List.length_cons, List.length_nil] at *; omega)); (first | omega | (dsimp only; simp only [List.length_map, List.length_append, List.length_cons, List.length_nil] at *; omega) | (simp only [List.length_map, List.length_append, List.length_cons, List.length_nil] at *; omega)); exact rfl)) | ((with_reducible apply rpN); ((with_reducible apply qAb); exact tyOk rfl; (iterate 5 exact rfl))) | ((with_reducible apply qA9); exact rfl; exact rfl))
                refine qBn (fun m s => ∃ j, j ≤ q.length ∧ j = m ∧ insJ q acc.length (numV kr :: lr) j = insF q acc.length (numV kr :: lr) ∧ s = ⟨[(3, .px 3 0), (7, .ow 1000 (q.length + 1)), (8, .d (iD 1)), (10, .d (iD acc.length)), (13, .d (iD j)), (20, .d (.ag (a.flatMap Ce.cs ++ b.flatMap Ce.cs))), (21, .d (iD 1)), (27, .d (.ag (d.flatMap Ce.cs))), (28, .d (iD k))], [(3, .var 43 [.d (bD o0), .d (bD true)]), (1000, .row 24 1 ((midF q (numV kr :: lr) j).map rowC))]⟩) _ _ ?_ ⟨q.length, Nat.le_refl _, rfl, rfl, rfl⟩ ?_
                · rw [midF_end, List.map_append]
                  refine qAx [(1000, 45)] (by repeat' (first | exact qAI | (refine qAD rfl (by (first | exact SubA.refl _ | exact qDE (by (simp; done)))) ?_))) ?_ rfl (by repeat' (first | exact trivial | exact qA7 rfl | exact qAp rfl | refine And.intro ?_ ?_)) (by repeat' (first | exact trivial | exact qA7 rfl | exact qAp rfl | refine And.intro ?_ ?_))
                  exact qCt rfl rfl (qCt rfl (qE9 rfl) qFb)
                · rintro m s ⟨j, hj, rfl, hins, rfl⟩
                  clear t1 l1
                  by_cases hsj : acc.length < j
                  · obtain ⟨j, rfl⟩ : ∃ i, j = i + 1 := ⟨j - 1, by omega⟩
                    obtain ⟨p, hp⟩ : ∃ p, q[j]? = some p := ⟨_, List.getElem?_eq_getElem (by omega)⟩
                    obtain ⟨kp, lp, e0⟩ := hkq p (List.mem_of_getElem? hp)
                    subst e0
                    have g1 := qE3 (midF_at (r := numV kr :: lr) hj)
                    have g2 := qE3 (midF_pre (r := numV kr :: lr) hp)
                    have g3 := rowC_swap (r := numV kr :: lr) hp
                    have hgr : ((numV kr :: lr).map Vl.cs)[0]? = some [iD 2, iD kr, qD 0, strD .empty] := rfl
                    have hgp : ((numV kp :: lp).map Vl.cs)[0]? = some [iD 2, iD kp, qD 0, strD .empty] := rfl
                    have hgt : decide (((j + 1 : Nat) : Int) > (acc.length : Int)) = true := by rw [decide_eq_true_eq]; omega
                    obtain ⟨es, hes⟩ : ∃ es, (midF q (numV kr :: lr) (j + 1)).map rowC = es := ⟨_, rfl⟩
                    rw [hes] at g1 g2 g3 ⊢
                    have g4 : (es.set (j + 1) [qBz (numV kp :: lp)])[j]? = some [qBz (numV kp :: lp)] := by rw [List.getElem?_set_ne (by omega), g2]
                    repeat (first | (with_reducible first | apply qAj | apply qAg | apply qA5) | ((with_reducible apply qBh); (first | kernel_rfl | exact rfl)) | ((first | (with_reducible apply dr) | ((with_reducible apply drG); exact rfl; exact qAZ rfl; (focus repeat' (first | exact trivial | exact fun h => h | refine And.intro ?_ ?_)); intro hgd; have hgd0 := hgd; (try simp only [decide_eq_true_eq, Bool.and_eq_true, Bool.not_eq_true', beq_iff_eq] at hgd))); first | (exact qA4 (z := (j : Int)) rfl rfl (by omega) (by omega) (by omega)) | ((with_reducible apply qAd); (conv => lhs; whnf)) | ((with_reducible first | apply qAQ | apply qAc | apply qAU | apply qBH) <;> first | ((with_reducible apply tyOk); exact rfl) | exact rfl | exact fun h => h | decide) | ((with_reducible apply qBB); exact tyOk rfl; exact rfl; exact rfl; assumption; exact rfl) | ((with_reducible apply qCT); exact tyOk rfl; (iterate 3 exact rfl); assumption; exact rfl) | ((with_reducible apply qAM); exact tyOk rfl; exact rfl; exact tyOk rfl; (iterate 4 exact rfl); (first | omega | (dsimp only; simp only [List.length_map, List.length_append, List.length_cons, List.length_nil] at *; omega))) | ((with_reducible apply qCb); exact tyOk rfl; exact rfl; exact tyOk rfl; (iterate 3 exact rfl); (first | omega | (dsimp only; simp only [List.length_map, List.length_append, List.length_cons, List.length_nil] at *; omega)))))
                    refine qAo rfl (fun hd => ?_) (fun hd => ?_)
                    · have hlt : kr < kp := by simp at hd; omega
                      clear hd
                      repeat (first | (with_reducible first | apply qAj | apply qAh | apply qAi | apply qAg | apply qA5 | apply qAq | apply qAF | apply qAm) | ((with_reducible apply qBh); (first | kernel_rfl | exact rfl)) | ((with_reducible first | apply rp | apply dr); first | (exact qA4 (z := (j : Int)) rfl rfl (by omega) (by omega) (by omega)) | ((with_reducible first | apply qAd | apply qAa); (conv => lhs; whnf)) | ((with_reducible apply qCT); exact tyOk rfl; (iterate 3 exact rfl); assumption; exact rfl) | ((with_reducible apply qCb); exact tyOk rfl; exact rfl; exact tyOk rfl; (iterate 3 exact rfl); omega)) | ((with_reducible apply drN); ((with_reducible apply qD6); exact tyOk rfl; (iterate 4 exact rfl); assumption; exact rfl; exact qle rfl)))
                      refine ⟨_, _, ?_, ?_, j, by omega, rfl, ?_, rfl⟩
                      · omega
                      · rw [← g3]
                        refine qAx [] (by repeat' (first | exact qAI | (refine qAD rfl (by exact SubA.refl _) ?_))) (by repeat' (first | exact trivial | exact rfl | refine And.intro ?_ ?_)) rfl (by repeat' (first | exact trivial | exact qA7 rfl | exact qAp rfl | refine And.intro ?_ ?_)) (by repeat' (first | exact trivial | exact qA7 rfl | exact qAp rfl | refine And.intro ?_ ?_))
                      · rw [← hins, insJ_down (r := numV kr :: lr) hp hsj hlt]
                    · have hlt : ¬ kr < kp := by simp at hd; omega
                      clear hd
                      repeat (first | (with_reducible first | apply qAh | apply qAi | apply qAg | apply qBd | apply qBa | apply qBc | apply qAF) | ((with_reducible apply rp); first | ((with_reducible apply qAd); (conv => lhs; whnf)) | ((with_reducible apply qAJ); exact rfl; exact rfl; omega; omega)))
                      refine ⟨_, _, ?_, ?_, k + 1, by omega, rfl, rfl⟩
                      · omega
                      · rw [e1, ← hins, insJ_here (r := numV kr :: lr) hp hlt, qFz hj, hes]
                        refine qAx [] (by repeat' (first | exact qAI | (refine qAD rfl (by exact SubA.refl _) ?_))) (by repeat' (first | exact trivial | exact rfl | refine And.intro ?_ ?_)) rfl (by repeat' (first | exact trivial | exact qA7 rfl | exact qAp rfl | refine And.intro ?_ ?_)) (by repeat' (first | exact trivial | exact qA7 rfl | exact qAp rfl | refine And.intro ?_ ?_))
                  · have hff : decide ((j : Int) > (acc.length : Int)) = false := by rw [decide_eq_false_iff_not]; omega
                    repeat (first | (with_reducible first | apply qAj | apply qAg | apply qA5) | ((with_reducible apply qBh); (first | kernel_rfl | exact rfl)) | ((first | (with_reducible apply dr) | ((with_reducible apply drG); exact rfl; exact qAZ rfl; (focus repeat' (first | exact trivial | exact fun h => h | refine And.intro ?_ ?_)); intro hgd; have hgd0 := hgd; (try simp only [decide_eq_true_eq, Bool.and_eq_true, Bool.not_eq_true', beq_iff_eq] at hgd))); first | ((with_reducible apply qAd); (conv => lhs; whnf)) | ((with_reducible apply qCd); exact rfl; (first | assumption | decide); (conv => lhs; whnf)) | ((with_reducible apply qCb); exact tyOk rfl; exact rfl; exact tyOk rfl; (iterate 3 exact rfl); omega) | ((with_reducible apply qBH); exact rfl; exact rfl) | ((with_reducible apply qCM); exact rfl; exact rfl; omega; omega)) | ((first | (with_reducible apply rpGF) | (with_reducible apply drGF)); exact rfl; exact qAZ rfl; (first | assumption | decide | exact rfl); (focus repeat' (first | exact trivial | exact fun h => h | refine And.intro ?_ ?_))))
                    refine qAo rfl (fun hd => ?_) (fun hd => ?_)
                    · exfalso
                      simp at hd <;> omega
                    · clear hd
                      repeat (first | (with_reducible first | apply qAh | apply qAi | apply qAg | apply qBd | apply qBa | apply qBc | apply qAF) | ((with_reducible apply rp); first | ((with_reducible apply qAd); (conv => lhs; whnf)) | ((with_reducible apply qAJ); exact rfl; exact rfl; omega; omega)))
                      refine ⟨_, _, ?_, ?_, k + 1, by omega, rfl, rfl⟩
                      · omega
                      · rw [e1, ← hins, insJ_at hsj, qFz hj]
                        refine qAx [] (by repeat' (first | exact qAI | (refine qAD rfl (by exact SubA.refl _) ?_))) (by repeat' (first | exact trivial | exact rfl | refine And.intro ?_ ?_)) rfl (by repeat' (first | exact trivial | exact qA7 rfl | exact qAp rfl | refine And.intro ?_ ?_)) (by repeat' (first | exact trivial | exact qA7 rfl | exact qAp rfl | refine And.intro ?_ ?_))
          · have hke : k = 4 := by simp at hd; omega
            clear hd
            subst hke
            rw [List.take_of_length_le (by omega)] at hq
            rw [hq] at hfin2
            repeat (first | (with_reducible first | apply qAh | apply qAi | apply qAg | apply qBd | apply qBa | apply qBc | apply qAF) | ((with_reducible apply rp); first | ((with_reducible apply qAd); (conv => lhs; whnf)) | ((with_reducible apply qAJ); exact rfl; exact rfl; omega; omega)))
            refine ⟨_, _, ?_, ?_, 1 + 1, by omega, rfl, rfl⟩
            · omega
            · rw [hfin2]
              refine qAx [] (by repeat' (first | exact qAI | (refine qAD rfl (by exact SubA.refl _) ?_))) (by repeat' (first | exact trivial | exact rfl | refine And.intro ?_ ?_)) rfl (by repeat' (first | exact trivial | exact qA7 rfl | exact qAp rfl | refine And.intro ?_ ?_)) (by repeat' (first | exact trivial | exact qA7 rfl | exact qAp rfl | refine And.intro ?_ ?_))
    · have hke : i = 2 := by simp at hd; omega
      clear hd
      subst hke
      have hlm : (accF a b o0 o1 2).length = ((accF a b o0 o1 2).map rowC).length := (List.length_map _).symm
      rw [hlm]
      generalize (accF a b o0 o1 2).map rowC = es at *
      repeat (first | (with_reducible first | apply qAj | apply qAh | apply qAi | apply qAg | apply qBd | apply qBa | apply qBc | apply qAu | apply oe_ret) | ((with_reducible apply rp); first | ((with_reducible apply qAd); (conv => lhs; whnf)) | ((with_reducible apply qAa); (conv => lhs; whnf))))
      (with_reducible apply reto_ok); (focus (repeat' (first | (with_reducible apply qAw) | (with_reducible apply qAr) | ((with_reducible apply qAB); exact rfl)))); (iterate 3 exact rfl)
      rfl
theorem rows_pc (t : Tb) (h : TbOk t) (o0 o1 : Bool) : PC Tryd.prog 14 [.ag t.cs, .ag [bD o0, bD o1]] (.tu [qEP (accF t.a t.b o0 o1 2), iD 0]) := (rows_pco t h o0 o1).pc
end Go.Proofs.YtpaccaojgbfjdaaDoor

