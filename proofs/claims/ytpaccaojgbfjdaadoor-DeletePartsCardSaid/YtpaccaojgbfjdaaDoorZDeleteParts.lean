/-
  DeleteParts: what is deleted and what is left are all.
-/
import Derived.Test.YtpaccaojgbfjdaaDoorZDelL
import Derived.Test.YtpaccaojgbfjdaaDoorZInsertL
import Derived.Test.YtpaccaojgbfjdaaDoorZTbG
import Derived.Test.YtpaccaojgbfjdaaDoorZH
import Derived.Test.YtpaccaojgbfjdaaDoorZHeapR
set_option linter.unusedSimpArgs false
set_option linter.unusedVariables false
namespace Go.Proofs.YtpaccaojgbfjdaaDoor
open Go.RowKit

theorem checkN_pc : PC Tryd.prog 16 [.ag tb0] (iD 5) := by
  unfold tb0
  refine qAs Tryd.func16 rfl (by kernel_rfl) mixed (by kernel_rfl) (qle (by kernel_rfl)) Tryd.results16 ?_
  repeat (first | ((first | (with_reducible apply rpGT) | (with_reducible apply drGT) | (with_reducible apply qCw) | (with_reducible apply qCv)); exact rfl; (first | exact qAZ rfl | exact qAR rfl | exact qBt rfl | exact qBu rfl); (first | exact rfl | assumption | decide); (focus repeat' (first | exact trivial | exact fun h => h | refine And.intro ?_ ?_ | (intro h; (first | exact h | (simp only [Bool.and_eq_true] at h; (first | exact h.1 | exact h.1.1 | exact h.1.1.1 | exact h.2)) | (rw [h]; rfl) | (rw [hgd0, h]; rfl) | simp_all)))); ((first | ((with_reducible apply qAa); (conv => lhs; whnf)) | ((with_reducible first | apply qAc | apply qAe | apply qAX | apply qAn) <;> first | ((with_reducible apply tyOk); exact rfl) | exact rfl | decide)); (first | exact qAE _ | exact qBU _ _ | exact qBV _ _ _ | exact qBW _ _ _ _))) | (with_reducible first | apply qAj | apply qAh | apply qAi | apply qAg | apply qAu | apply qAS | apply qAy) | ((with_reducible apply rp); first | ((with_reducible apply qAa); (conv => lhs; whnf)) | ((with_reducible apply qAc); exact tyOk rfl; exact rfl; exact rfl; decide; exact rfl) | ((with_reducible apply qAe); exact tyOk rfl; (iterate 4 exact rfl)) | ((with_reducible apply qAX); exact rfl)) | ((with_reducible apply rp1); ((with_reducible apply qAn); exact rfl; exact rfl)) | ((with_reducible apply qBo); exact rfl; exact rfl))
  (with_reducible apply qAz); (focus (repeat' (first | (with_reducible apply qAw) | (with_reducible apply qAr) | ((with_reducible apply qAB); exact rfl)))); exact rfl; refine SubD.of_eq ?_
  rfl
theorem rowsN_pc (oa ob : Bool) : PC Tryd.prog 14 [.ag tb0, .ag [bD oa, bD ob]] (.tu [.nl, iD 5]) := by
  have c1 := checkN_pc
  unfold tb0 at *
  refine qAs Tryd.func14 rfl (by kernel_rfl) mixed (by kernel_rfl) (qle (by kernel_rfl)) Tryd.results14 ?_
  repeat (first | ((first | (with_reducible apply rpGT) | (with_reducible apply drGT) | (with_reducible apply qCw) | (with_reducible apply qCv)); exact rfl; (first | exact qAZ rfl | exact qAR rfl | exact qBt rfl | exact qBu rfl); (first | exact rfl | assumption | decide); (focus repeat' (first | exact trivial | exact fun h => h | refine And.intro ?_ ?_ | (intro h; (first | exact h | (simp only [Bool.and_eq_true] at h; (first | exact h.1 | exact h.1.1 | exact h.1.1.1 | exact h.2)) | (rw [h]; rfl) | (rw [hgd0, h]; rfl) | simp_all)))); ((first | ((with_reducible apply qAf); exact rfl; exact rfl; exact (c1); exact rfl) | ((with_reducible first | apply qAd | apply qAa); (conv => lhs; whnf)) | ((with_reducible first | apply qAl | apply qAV | apply qAn) <;> first | ((with_reducible apply tyOk); exact rfl) | exact rfl | exact qle rfl)); (first | exact qAE _ | exact qBU _ _ | exact qBV _ _ _ | exact qBW _ _ _ _))) | (with_reducible first | apply qAj | apply qAh | apply qAi | apply qAg | apply qAu | apply qAS | apply qAy) | ((with_reducible apply rp); first | ((with_reducible apply qAf); exact rfl; exact rfl; exact (c1); exact rfl) | ((with_reducible apply qAd); (conv => lhs; whnf)) | ((with_reducible apply qAa); (conv => lhs; whnf)) | ((with_reducible apply qAl); exact tyOk rfl; (iterate 3 exact rfl); exact qle rfl; exact rfl) | ((with_reducible apply qAV); exact rfl; exact rfl)) | ((with_reducible apply rp1); ((with_reducible apply qAn); exact rfl; exact rfl)) | ((with_reducible apply qBo); exact rfl; exact rfl))
  (with_reducible apply qAz); (focus (repeat' (first | (with_reducible apply qAw) | (with_reducible apply qAr) | ((with_reducible apply qAB); exact rfl)))); exact rfl; refine SubD.of_eq ?_
  rfl
theorem any_snoc {α : Type} (p : α → Bool) {l : List α} {k : Nat} {x : α} (h : l[k]? = some x) : (l.take (k + 1)).any p = ((l.take k).any p || p x) := by
  rw [List.take_add_one, h, List.any_append]
  congr 1
  show (p x || false) = p x
  exact Bool.or_false _
theorem qGk {α : Type} (p : α → Bool) {l : List α} {k : Nat} {x : α} (h : l[k]? = some x) : (l.take (k + 1)).filter p = (l.take k).filter p ++ if p x = true then [x] else [] := by
  rw [List.take_add_one, h, List.filter_append]
  congr 1
  show List.filter p [x] = _
  cases hp : p x with
  | true => rw [List.filter_cons_of_pos hp, if_pos rfl]; rfl
  | false => rw [List.filter_cons_of_neg (by rw [hp]; decide), if_neg (by decide)]; rfl
set_option maxHeartbeats 8000000 in
theorem qDq (l q : List Raw) (cols : List Cl) (cs U xc : List D) (nn n2 i tn er ge : Nat) (dz : Int) (rs : List (List Vl)) (Bd : D) (oa ob : Bool) (y : List Vl → Bool) (ev : List Vl → Nat)
    (g1 : PG Tryd.prog 9 [.d (qBi l)] [] [] (.tu [.d (.ag cs), .px 2000 0, .d (bD true)]) [] [(2000, .var 50 [.d (qBi q), .d (iD nn), .d (qAY cols)])])
    (hcl : cs.length = 19) (hUl : U.length = 19) (hxl : xc.length = 7) (hcol : cs[2]? = some (qAY cols))
    (p2 : PC Tryd.prog 10 [iD dz, iD ((2 : Nat) : Int)] (iD i))
    (x1 : PX Tryd.prog 19 [.px 1000 0, .d (iD 1), .d (iD 3)] [(1000, .var 50 [.d (qBi q), .d (iD nn), .d (qAY cols)])] [] (.ag xc) [(1000, .var 50 [.d (qBi q), .d (iD n2), .d (qAY cols)])] [])
    (dl : PC Tryd.prog 27 [.ag cs, iD i, .ag xc] (.tu [.ag U, iD tn, iD er]))
    (c1 : PC Tryd.prog 15 [iD i] (.ag [bD oa, bD ob]))
    (rA : PC Tryd.prog 14 [.ag cs, .ag [bD oa, bD ob]] (.tu [qEP rs, iD 0]))
    (rB : PC Tryd.prog 14 [.ag U, .ag [bD oa, bD ob]] (.tu [Bd, iD ge]))
    (hH : ∀ r ∈ rs, PC Tryd.prog 28 [.ag xc, qAY cols, qBz r] (.tu [bD (y r), iD (ev r)]))
    (tt : PC Tryd.prog 13 [] (bD true))
    (s1 : PC Tryd.prog 17 [qEP (rs.filter fun r => !y r), qEP (rs.filter fun r => !y r)] (bD true))
    (hA4 : rs.length ≤ 4)
    (hfin : (rs.any (fun r => ev r != 0) = true ∧ er ≠ 0 ∧ tn = 0) ∨ (rs.any (fun r => ev r != 0) = false ∧ er = 0 ∧ ge = 0 ∧ tn + (rs.filter fun r => !y r).length = rs.length ∧ Bd = qEP (rs.filter fun r => !y r))) :
    PC Tryd.prog 5 [qBi l, iD dz] (bD true) := by
  have hcolA : (cs.map A.d)[2]? = some (.d (qAY cols)) := qDz hcol
  refine qAs Tryd.func5 rfl (by kernel_rfl) mixed (by kernel_rfl) (qle (by kernel_rfl)) Tryd.results5 ?_
  repeat (first | ((first | (with_reducible apply rpGT) | (with_reducible apply drGT) | (with_reducible apply qCw) | (with_reducible apply qCv)); exact rfl; (first | exact qAZ rfl | exact qAR rfl | exact qBt rfl | exact qBu rfl); (first | exact rfl | assumption | decide); (focus repeat' (first | exact trivial | exact fun h => h | refine And.intro ?_ ?_ | (intro h; (first | exact h | (simp only [Bool.and_eq_true] at h; (first | exact h.1 | exact h.1.1 | exact h.1.1.1 | exact h.2)) | (rw [h]; rfl) | (rw [hgd0, h]; rfl) | simp_all)))); (first | ((refine qEb [] [(2000, 27)] (ups := [(27, .var 50 [.d (qBi q), .d (iD nn), .d (qAY cols)])]) (v := (.tu [.d (.ag cs), .px 27 0, .d (bD true)])) rfl (g1) rfl ?_ rfl ?_ ?_ rfl rfl rfl rfl rfl ?_ ?_ rfl rfl rfl; (focus repeat' (first | exact trivial | exact rfl | refine And.intro ?_ ?_)); (iterate 4 (focus repeat' (first | exact trivial | exact qAp rfl | refine And.intro ?_ ?_)))); (first | exact qAE _ | exact qBU _ _ | exact qBV _ _ _ | exact qBW _ _ _ _)) | ((refine qAC [(1000, 27)] [(1000, 27)] (ups := [(27, .var 50 [.d (qBi q), .d (iD n2), .d (qAY cols)])]) rfl (x1) rfl ?_ rfl ?_ ?_ rfl rfl rfl rfl rfl ?_ rfl rfl; (focus repeat' (first | exact trivial | exact rfl | refine And.intro ?_ ?_)); (iterate 3 (focus repeat' (first | exact trivial | exact qAp rfl | refine And.intro ?_ ?_)))); (first | exact qAE _ | exact qBU _ _ | exact qBV _ _ _ | exact qBW _ _ _ _)) | ((first | (exact qA0 (tyOk rfl) rfl rfl rfl hcl) | (exact qA0 (tyOk rfl) rfl rfl rfl hUl) | (exact qA0 (tyOk rfl) rfl rfl rfl hxl) | (exact qAb (tyOk rfl) rfl rfl rfl hcl hcl) | (exact qAb (tyOk rfl) rfl rfl rfl hUl hUl) | (exact qAb (tyOk rfl) rfl rfl rfl hxl hxl) | ((with_reducible apply qAf); exact rfl; exact rfl; (first | exact (p2) | exact (c1)); exact rfl) | ((with_reducible apply qAP); (iterate 3 exact rfl); exact (dl)) | ((with_reducible apply qAP); (iterate 3 exact rfl); exact (rA)) | ((with_reducible apply qAP); (iterate 3 exact rfl); exact (rB)) | ((with_reducible first | apply qAd | apply qAa); (conv => lhs; whnf)) | ((with_reducible first | apply qAv | apply qA3 | apply qAk) <;> first | ((with_reducible apply tyOk); exact rfl) | exact rfl) | ((with_reducible apply qEh); exact rfl; exact rfl)); (first | exact qAE _ | exact qBU _ _ | exact qBV _ _ _ | exact qBW _ _ _ _)))) | (with_reducible first | apply qAj | apply qAh | apply qAi | apply qAg | apply qA5 | apply qAq) | ((with_reducible apply qBh); (first | kernel_rfl | exact rfl)) | ((with_reducible first | apply rp | apply dr); first | (exact qA0 (tyOk rfl) rfl rfl rfl hcl) | (exact qA0 (tyOk rfl) rfl rfl rfl hUl) | (exact qA0 (tyOk rfl) rfl rfl rfl hxl) | ((with_reducible apply qAf); exact rfl; exact rfl; (first | exact (p2) | exact (c1)); exact rfl) | ((with_reducible apply qAP); (iterate 3 exact rfl); exact (dl)) | ((with_reducible apply qAP); (iterate 3 exact rfl); exact (rA)) | ((with_reducible apply qAP); (iterate 3 exact rfl); exact (rB)) | ((with_reducible first | apply qAd | apply qAa); (conv => lhs; whnf)) | ((with_reducible first | apply qAv | apply qA3) <;> first | ((with_reducible apply tyOk); exact rfl) | exact rfl) | ((with_reducible apply qEh); exact rfl; exact rfl)) | ((with_reducible apply rp1); ((with_reducible apply qAk); exact tyOk rfl; exact rfl)) | ((with_reducible apply rpN); first | (exact qAb (tyOk rfl) rfl rfl rfl hcl hcl) | (exact qAb (tyOk rfl) rfl rfl rfl hUl hUl) | (exact qAb (tyOk rfl) rfl rfl rfl hxl hxl)) | ((with_reducible apply rpL); (refine qEb [] [(2000, 27)] (ups := [(27, .var 50 [.d (qBi q), .d (iD nn), .d (qAY cols)])]) (v := (.tu [.d (.ag cs), .px 27 0, .d (bD true)])) rfl (g1) rfl ?_ rfl ?_ ?_ rfl rfl rfl rfl rfl ?_ ?_ rfl rfl rfl; (focus repeat' (first | exact trivial | exact rfl | refine And.intro ?_ ?_)); (iterate 4 (focus repeat' (first | exact trivial | exact qAp rfl | refine And.intro ?_ ?_)))); exact qAE _) | ((with_reducible apply rpL); (refine qAC [(1000, 27)] [(1000, 27)] (ups := [(27, .var 50 [.d (qBi q), .d (iD n2), .d (qAY cols)])]) rfl (x1) rfl ?_ rfl ?_ ?_ rfl rfl rfl rfl rfl ?_ rfl rfl; (focus repeat' (first | exact trivial | exact rfl | refine And.intro ?_ ?_)); (iterate 3 (focus repeat' (first | exact trivial | exact qAp rfl | refine And.intro ?_ ?_)))); exact qAE _))
  refine qBn (fun m s => ∃ k, k ≤ rs.length ∧ m = rs.length - k ∧ ((((rs.take k).filter fun r => !y r) = [] ∧ s = ⟨[(5, .px 5 0), (7, .d (bD true)), (9, .px 9 0), (11, .d (iD tn)), (12, .d (iD er)), (13, .d (qEP rs)), (14, .d (iD 0)), (15, .d Bd), (16, .d (iD ge)), (17, .d .nl), (18, .d (bD ((rs.take k).any fun r => ev r != 0))), (55, .d (qEP rs)), (56, .d (iD rs.length)), (57, .d (iD k))], [(5, .var 30 (cs.map .d)), (9, .var 58 (xc.map .d))]⟩) ∨
    s = ⟨[(5, .px 5 0), (7, .d (bD true)), (9, .px 9 0), (11, .d (iD tn)), (12, .d (iD er)), (13, .d (qEP rs)), (14, .d (iD 0)), (15, .d Bd), (16, .d (iD ge)), (17, .ow 17 ((rs.take k).filter fun r => !y r).length), (18, .d (bD ((rs.take k).any fun r => ev r != 0))), (55, .d (qEP rs)), (56, .d (iD rs.length)), (57, .d (iD k))], [(5, .var 30 (cs.map .d)), (9, .var 58 (xc.map .d)), (17, .row 24 1 (((rs.take k).filter fun r => !y r).map rowC))]⟩)) _ _ ?_ ⟨0, by omega, rfl, .inl ⟨rfl, rfl⟩⟩ ?_
  · refine qAx [] (by repeat' (first | exact qAI | (refine qAD rfl (by exact SubA.refl _) ?_))) (by repeat' (first | exact trivial | exact kb_d rfl | refine And.intro ?_ ?_)) rfl (by repeat' (first | exact trivial | exact qAH _ | exact qAp rfl | refine And.intro ?_ ?_)) (by repeat' (first | exact trivial | exact qAH _ | exact qAp rfl | refine And.intro ?_ ?_))
  · rintro m s ⟨k, hk, rfl, ⟨hF0, rfl⟩ | rfl⟩
    · repeat (first | ((first | (with_reducible apply rpGT) | (with_reducible apply drGT) | (with_reducible apply qCw) | (with_reducible apply qCv)); exact rfl; (first | exact qAZ rfl | exact qAR rfl | exact qBt rfl | exact qBu rfl); (first | exact rfl | assumption | decide); (focus repeat' (first | exact trivial | exact fun h => h | refine And.intro ?_ ?_ | (intro h; (first | exact h | (simp only [Bool.and_eq_true] at h; (first | exact h.1 | exact h.1.1 | exact h.1.1.1 | exact h.2)) | (rw [h]; rfl) | (rw [hgd0, h]; rfl) | simp_all)))); ((first | ((with_reducible apply qAU); exact rfl; exact rfl)); (first | exact qAE _ | exact qBU _ _ | exact qBV _ _ _ | exact qBW _ _ _ _))) | (with_reducible first | apply qAj | apply qAh | apply qAi | apply qAg) | ((with_reducible apply rp); ((with_reducible apply qAU); exact rfl; exact rfl)))
      refine qAo rfl (fun hd => ?_) (fun hd => ?_)
      · have hlt : k < rs.length := by simpa using hd
        clear hd
        obtain ⟨r, hr⟩ : ∃ r, rs[k]? = some r := ⟨_, List.getElem?_eq_getElem hlt⟩
        have h1 := hH r (List.mem_of_getElem? hr)
        have hg : (rs.map rowC)[k]? = some [qBz r] := qE3 hr
        have hany := any_snoc (fun r => ev r != 0) hr
        have hfil := qGk (fun r => !y r) hr
        have hev : (ev r != 0) = (((ev r : Nat) : Int) != 0) := by
          rw [Bool.eq_iff_iff, bne_iff_ne, bne_iff_ne]
          omega
        rw [hev] at hany
        have hF4 : ((rs.take k).filter fun r => !y r).length ≤ 4 := by
          have := List.length_filter_le (fun r => !y r) (rs.take k)
          rw [List.length_take] at this
          omega
        generalize (rs.take k).any (fun r => ev r != 0) = fb at *
        generalize (rs.take k).filter (fun r => !y r) = F at *
        subst hF0
        repeat (first | ((first | (with_reducible apply rpGT) | (with_reducible apply drGT) | (with_reducible apply qCw) | (with_reducible apply qCv)); exact rfl; exact qAR rfl; (first | exact rfl | assumption | decide); (focus repeat' (first | exact trivial | exact fun h => h | refine And.intro ?_ ?_)); ((first | (exact qA0 (tyOk rfl) rfl rfl rfl hxl) | (exact qAe (tyOk rfl) rfl rfl rfl hcolA) | ((with_reducible apply qAf); exact rfl; exact rfl; exact (h1); exact rfl) | ((with_reducible first | apply qAd | apply qAa); (conv => lhs; whnf)) | ((with_reducible first | apply qAK | apply qAc | apply qAV | apply qAX | apply qAv) <;> first | ((with_reducible apply tyOk); exact rfl) | exact rfl | exact fun h => h | decide) | ((with_reducible apply qBB); exact tyOk rfl; exact rfl; exact rfl; assumption; exact rfl) | ((with_reducible apply qAM); exact tyOk rfl; exact rfl; exact tyOk rfl; (iterate 4 exact rfl); (simp only [List.length_map, List.length_append, List.length_cons, List.length_nil] at *; omega))); (first | exact qAE _ | exact qBU _ _ | exact qBV _ _ _ | exact qBW _ _ _ _))) | (with_reducible first | apply qAj | apply qAh | apply qAi | apply qAg | apply qAq | apply qAm) | ((first | (with_reducible apply rp) | ((with_reducible apply rpG); exact rfl; exact qAR rfl; (focus repeat' (first | exact trivial | exact fun h => h | refine And.intro ?_ ?_)); intro hgd; have hgd0 := hgd; (try simp only [decide_eq_true_eq, Bool.and_eq_true, Bool.not_eq_true', beq_iff_eq] at hgd))); first | (exact qA0 (tyOk rfl) rfl rfl rfl hxl) | (exact qAe (tyOk rfl) rfl rfl rfl hcolA) | ((with_reducible apply qAf); exact rfl; exact rfl; exact (h1); exact rfl) | ((with_reducible first | apply qAd | apply qAa); (conv => lhs; whnf)) | ((with_reducible first | apply qAK | apply qAc | apply qAV | apply qAX | apply qAv) <;> first | ((with_reducible apply tyOk); exact rfl) | exact rfl | exact fun h => h | decide) | ((with_reducible apply qBB); exact tyOk rfl; exact rfl; exact rfl; assumption; exact rfl) | ((with_reducible apply qAM); exact tyOk rfl; exact rfl; exact tyOk rfl; (iterate 4 exact rfl); (simp only [List.length_map, List.length_append, List.length_cons, List.length_nil] at *; omega))))
        cases hy : y r with
        | true =>
          rw [hy] at hfil
          have hfil : (rs.take (k + 1)).filter (fun r => !y r) = [] := by rw [hfil, if_neg (by decide), List.append_nil]
          refine qAo rfl (fun hc => (by cases hc)) (fun _ => ?_)
          repeat (first | ((first | (with_reducible apply rpGT) | (with_reducible apply drGT) | (with_reducible apply qCw) | (with_reducible apply qCv)); exact rfl; (first | exact qAZ rfl | exact qAR rfl | exact qBt rfl | exact qBu rfl); (first | exact rfl | assumption | decide); (focus repeat' (first | exact trivial | exact fun h => h | refine And.intro ?_ ?_ | (intro h; (first | exact h | (simp only [Bool.and_eq_true] at h; (first | exact h.1 | exact h.1.1 | exact h.1.1.1 | exact h.2)) | (rw [h]; rfl) | (rw [hgd0, h]; rfl) | simp_all)))); ((first | ((with_reducible apply qAd); (conv => lhs; whnf)) | ((with_reducible apply qAJ); exact rfl; exact rfl; omega; omega)); (first | exact qAE _ | exact qBU _ _ | exact qBV _ _ _ | exact qBW _ _ _ _))) | (with_reducible first | apply qAh | apply qAi | apply qAg | apply qAF | apply qAm) | ((with_reducible apply rp); first | ((with_reducible apply qAd); (conv => lhs; whnf)) | ((with_reducible apply qAJ); exact rfl; exact rfl; omega; omega)))
          refine ⟨_, _, ?_, ?_, k + 1, by omega, rfl, .inl ⟨hfil, rfl⟩⟩
          · omega
          · rw [hany]
            refine qAx [] (by repeat' (first | exact qAI | (refine qAD rfl (by exact SubA.refl _) ?_))) (by repeat' (first | exact trivial | exact kb_d rfl | refine And.intro ?_ ?_)) rfl (by repeat' (first | exact trivial | exact qAH _ | exact qAp rfl | refine And.intro ?_ ?_)) (by repeat' (first | exact trivial | exact qAH _ | exact qAp rfl | refine And.intro ?_ ?_))
        | false =>
          rw [hy] at hfil
          have hfil : (rs.take (k + 1)).filter (fun r => !y r) = [] ++ [r] := hfil
          refine qAo rfl (fun _ => ?_) (fun hc => (by cases hc))
          repeat (first | ((first | (with_reducible apply rpGT) | (with_reducible apply drGT) | (with_reducible apply qCw) | (with_reducible apply qCv)); exact rfl; (first | exact qAZ rfl | exact qAR rfl | exact qBt rfl | exact qBu rfl); (first | exact rfl | assumption | decide); (focus repeat' (first | exact trivial | exact fun h => h | refine And.intro ?_ ?_ | (intro h; (first | exact h | (simp only [Bool.and_eq_true] at h; (first | exact h.1 | exact h.1.1 | exact h.1.1.1 | exact h.2)) | (rw [h]; rfl) | (rw [hgd0, h]; rfl) | simp_all)))); ((first | ((with_reducible first | apply qAd | apply qAa); (conv => lhs; whnf)) | ((with_reducible apply qAJ); exact rfl; exact rfl; omega; omega) | ((with_reducible apply qA6); exact tyOk rfl; exact rfl; exact tyOk rfl; exact rfl; exact rfl; (focus repeat' (first | exact trivial | refine And.intro rfl (And.intro rfl ?_))); decide; decide; exact rfl) | ((with_reducible apply qDC); exact tyOk rfl; exact rfl; exact tyOk rfl; exact rfl; exact rfl; decide; (first | (dsimp only; simp only [List.length_map, List.length_append, List.length_cons, List.length_nil] at *; omega) | (simp only [List.length_map, List.length_append, List.length_cons, List.length_nil] at *; omega)); (first | (dsimp only; simp only [List.length_map, List.length_append, List.length_cons, List.length_nil] at *; omega) | (simp only [List.length_map, List.length_append, List.length_cons, List.length_nil] at *; omega)); exact rfl)); (first | exact qAE _ | exact qBU _ _ | exact qBV _ _ _ | exact qBW _ _ _ _))) | (with_reducible first | apply qAh | apply qAi | apply qAg | apply qAF) | ((with_reducible apply rp); first | ((with_reducible apply qAd); (conv => lhs; whnf)) | ((with_reducible apply qAa); (conv => lhs; whnf)) | ((with_reducible apply qAJ); exact rfl; exact rfl; omega; omega)) | ((with_reducible apply rp1); first | ((with_reducible apply qA6); exact tyOk rfl; exact rfl; exact tyOk rfl; exact rfl; exact rfl; (focus repeat' (first | exact trivial | refine And.intro rfl (And.intro rfl ?_))); decide; decide; exact rfl) | ((with_reducible apply qDC); exact tyOk rfl; exact rfl; exact tyOk rfl; exact rfl; exact rfl; decide; (first | (dsimp only; simp only [List.length_map, List.length_append, List.length_cons, List.length_nil] at *; omega) | (simp only [List.length_map, List.length_append, List.length_cons, List.length_nil] at *; omega)); (first | (dsimp only; simp only [List.length_map, List.length_append, List.length_cons, List.length_nil] at *; omega) | (simp only [List.length_map, List.length_append, List.length_cons, List.length_nil] at *; omega)); exact rfl)))
          refine ⟨_, _, ?_, ?_, k + 1, by omega, rfl, .inr rfl⟩
          · omega
          · rw [hany, hfil]
            refine qAx [(17, 79)] (by repeat' (first | exact qAI | (refine qAD rfl (by exact SubA.refl _) ?_))) (by repeat' (first | exact trivial | exact rfl | exact kb_d rfl | refine And.intro ?_ ?_)) rfl (by repeat' (first | exact trivial | exact qAH _ | exact qA7 rfl | exact qAp rfl | refine And.intro ?_ ?_)) (by repeat' (first | exact trivial | exact qAH _ | exact qA7 rfl | exact qAp rfl | refine And.intro ?_ ?_))
      · have hke : k = rs.length := by simp at hd; omega
        clear hd
        subst hke
        rw [List.take_length] at *
        have s2 := s1
        rw [hF0] at s2
        have s2 := s2.args (ds' := [qEP [], .nl]) (qBC.cons (SubD.refl _) id (qBC.cons (SubD.nil 1) (fun _ => rfl) qBC.nil))
        rcases hfin with ⟨f1, f2, f3⟩ | ⟨f1, f2, f3, f4, f5⟩
        · rw [f1]
          subst f3
          have e1 : (((er : Nat) : Int) != 0) = true := by simpa using f2
          repeat (first | ((first | (with_reducible apply rpGT) | (with_reducible apply drGT) | (with_reducible apply qCw) | (with_reducible apply qCv)); exact rfl; exact qAZ rfl; (first | exact rfl | assumption | decide); (focus repeat' (first | exact trivial | refine And.intro ?_ ?_)); ((first | (exact qEA e1 rfl rfl) | ((with_reducible apply qAf); exact rfl; exact rfl; exact (tt); exact rfl) | ((with_reducible first | apply qAd | apply qAa); (conv => lhs; whnf)) | ((with_reducible first | apply qAQ | apply qAt) <;> first | exact rfl | exact trivial)); (first | exact qAE _ | exact qBU _ _ | exact qBV _ _ _ | exact qBW _ _ _ _))) | (with_reducible first | apply qAj | apply qAh | apply qAi | apply qAg | apply qBd | apply qBa | apply qBc | apply qAu | apply qAS | apply qAy) | ((with_reducible apply rp); first | (exact qEA e1 rfl rfl) | ((with_reducible apply qAf); exact rfl; exact rfl; exact (tt); exact rfl) | ((with_reducible apply qAd); (conv => lhs; whnf)) | ((with_reducible apply qAa); (conv => lhs; whnf)) | ((with_reducible apply qAQ); (iterate 3 exact rfl); exact trivial) | ((with_reducible apply qAt); exact rfl; exact rfl)) | ((with_reducible apply qBo); exact rfl; exact rfl))
          (with_reducible apply qAz); (focus (repeat' (first | (with_reducible apply qAw) | (with_reducible apply qAr) | ((with_reducible apply qAB); exact rfl)))); exact rfl; refine SubD.of_eq ?_
          rfl
        · rw [f1]
          subst f2
          subst f3
          subst f5
          rw [hF0] at f4 ⊢
          have e1 : ((rs.length : Nat) : Int) - 0 = ((tn : Nat) : Int) := by simp at f4; omega
          have e2 : (((tn : Nat) : Int) == ((tn : Nat) : Int)) = true := by simp
          repeat (first | ((first | (with_reducible apply rpGT) | (with_reducible apply drGT) | (with_reducible apply qCw) | (with_reducible apply qCv)); exact rfl; exact qAZ rfl; (first | exact rfl | assumption | decide); (focus repeat' (first | exact trivial | refine And.intro ?_ ?_)); ((first | (exact qA4 (z := ((tn : Nat) : Int)) rfl rfl e1 (by omega) (by omega)) | (exact qDN e2 rfl rfl) | ((with_reducible apply qAf); exact rfl; exact rfl; (first | exact (s2) | exact (tt)); exact rfl) | ((with_reducible first | apply qAd | apply qAa); (conv => lhs; whnf)) | ((with_reducible first | apply qAQ | apply qAt | apply qA3) <;> first | ((with_reducible apply tyOk); exact rfl) | exact rfl | exact trivial) | ((with_reducible apply qFL); exact tyOk rfl; exact rfl; exact rfl)); (first | exact qAE _ | exact qBU _ _ | exact qBV _ _ _ | exact qBW _ _ _ _))) | (with_reducible first | apply qAj | apply qAh | apply qAi | apply qAg | apply qBd | apply qBa | apply qBc | apply qAu | apply qAy | apply qAm) | ((with_reducible apply rp); first | (exact qA4 (z := ((tn : Nat) : Int)) rfl rfl e1 (by omega) (by omega)) | (exact qDN e2 rfl rfl) | ((with_reducible apply qAf); exact rfl; exact rfl; exact (s2); exact rfl) | ((with_reducible apply qAf); exact rfl; exact rfl; exact (tt); exact rfl) | ((with_reducible apply qAd); (conv => lhs; whnf)) | ((with_reducible apply qAa); (conv => lhs; whnf)) | ((with_reducible apply qAQ); (iterate 3 exact rfl); exact trivial) | ((with_reducible apply qAt); exact rfl; exact rfl) | ((with_reducible apply qA3); exact tyOk rfl; exact rfl; exact rfl) | ((with_reducible apply qFL); exact tyOk rfl; exact rfl; exact rfl)) | ((with_reducible apply qA9); exact rfl; exact rfl))
          (with_reducible apply qAz); (focus (repeat' (first | (with_reducible apply qAw) | (with_reducible apply qAr) | ((with_reducible apply qAB); exact rfl)))); exact rfl; refine SubD.of_eq ?_
          rfl
    · repeat (first | ((first | (with_reducible apply rpGT) | (with_reducible apply drGT) | (with_reducible apply qCw) | (with_reducible apply qCv)); exact rfl; (first | exact qAZ rfl | exact qAR rfl | exact qBt rfl | exact qBu rfl); (first | exact rfl | assumption | decide); (focus repeat' (first | exact trivial | exact fun h => h | refine And.intro ?_ ?_ | (intro h; (first | exact h | (simp only [Bool.and_eq_true] at h; (first | exact h.1 | exact h.1.1 | exact h.1.1.1 | exact h.2)) | (rw [h]; rfl) | (rw [hgd0, h]; rfl) | simp_all)))); ((first | ((with_reducible apply qAU); exact rfl; exact rfl)); (first | exact qAE _ | exact qBU _ _ | exact qBV _ _ _ | exact qBW _ _ _ _))) | (with_reducible first | apply qAj | apply qAh | apply qAi | apply qAg) | ((with_reducible apply rp); ((with_reducible apply qAU); exact rfl; exact rfl)))
      refine qAo rfl (fun hd => ?_) (fun hd => ?_)
      · have hlt : k < rs.length := by simpa using hd
        clear hd
        obtain ⟨r, hr⟩ : ∃ r, rs[k]? = some r := ⟨_, List.getElem?_eq_getElem hlt⟩
        have h1 := hH r (List.mem_of_getElem? hr)
        have hg : (rs.map rowC)[k]? = some [qBz r] := qE3 hr
        have hany := any_snoc (fun r => ev r != 0) hr
        have hfil := qGk (fun r => !y r) hr
        have hev : (ev r != 0) = (((ev r : Nat) : Int) != 0) := by
          rw [Bool.eq_iff_iff, bne_iff_ne, bne_iff_ne]
          omega
        rw [hev] at hany
        have hF4 : ((rs.take k).filter fun r => !y r).length ≤ 4 := by
          have := List.length_filter_le (fun r => !y r) (rs.take k)
          rw [List.length_take] at this
          omega
        generalize (rs.take k).any (fun r => ev r != 0) = fb at *
        generalize (rs.take k).filter (fun r => !y r) = F at *
        repeat (first | ((first | (with_reducible apply rpGT) | (with_reducible apply drGT) | (with_reducible apply qCw) | (with_reducible apply qCv)); exact rfl; exact qAR rfl; (first | exact rfl | assumption | decide); (focus repeat' (first | exact trivial | exact fun h => h | refine And.intro ?_ ?_)); ((first | (exact qA0 (tyOk rfl) rfl rfl rfl hxl) | (exact qAe (tyOk rfl) rfl rfl rfl hcolA) | ((with_reducible apply qAf); exact rfl; exact rfl; exact (h1); exact rfl) | ((with_reducible first | apply qAd | apply qAa); (conv => lhs; whnf)) | ((with_reducible first | apply qAK | apply qAc | apply qAV | apply qAX | apply qAv) <;> first | ((with_reducible apply tyOk); exact rfl) | exact rfl | exact fun h => h | decide) | ((with_reducible apply qBB); exact tyOk rfl; exact rfl; exact rfl; assumption; exact rfl) | ((with_reducible apply qAM); exact tyOk rfl; exact rfl; exact tyOk rfl; (iterate 4 exact rfl); (simp only [List.length_map, List.length_append, List.length_cons, List.length_nil] at *; omega))); (first | exact qAE _ | exact qBU _ _ | exact qBV _ _ _ | exact qBW _ _ _ _))) | (with_reducible first | apply qAj | apply qAh | apply qAi | apply qAg | apply qAq | apply qAm) | ((first | (with_reducible apply rp) | ((with_reducible apply rpG); exact rfl; exact qAR rfl; (focus repeat' (first | exact trivial | exact fun h => h | refine And.intro ?_ ?_)); intro hgd; have hgd0 := hgd; (try simp only [decide_eq_true_eq, Bool.and_eq_true, Bool.not_eq_true', beq_iff_eq] at hgd))); first | (exact qA0 (tyOk rfl) rfl rfl rfl hxl) | (exact qAe (tyOk rfl) rfl rfl rfl hcolA) | ((with_reducible apply qAf); exact rfl; exact rfl; exact (h1); exact rfl) | ((with_reducible first | apply qAd | apply qAa); (conv => lhs; whnf)) | ((with_reducible first | apply qAK | apply qAc | apply qAV | apply qAX | apply qAv) <;> first | ((with_reducible apply tyOk); exact rfl) | exact rfl | exact fun h => h | decide) | ((with_reducible apply qBB); exact tyOk rfl; exact rfl; exact rfl; assumption; exact rfl) | ((with_reducible apply qAM); exact tyOk rfl; exact rfl; exact tyOk rfl; (iterate 4 exact rfl); (simp only [List.length_map, List.length_append, List.length_cons, List.length_nil] at *; omega))))
        cases hy : y r with
        | true =>
          rw [hy] at hfil
          have hfil : (rs.take (k + 1)).filter (fun r => !y r) = F := by rw [hfil, if_neg (by decide), List.append_nil]
          refine qAo rfl (fun hc => (by cases hc)) (fun _ => ?_)
          repeat (first | ((first | (with_reducible apply rpGT) | (with_reducible apply drGT) | (with_reducible apply qCw) | (with_reducible apply qCv)); exact rfl; (first | exact qAZ rfl | exact qAR rfl | exact qBt rfl | exact qBu rfl); (first | exact rfl | assumption | decide); (focus repeat' (first | exact trivial | exact fun h => h | refine And.intro ?_ ?_ | (intro h; (first | exact h | (simp only [Bool.and_eq_true] at h; (first | exact h.1 | exact h.1.1 | exact h.1.1.1 | exact h.2)) | (rw [h]; rfl) | (rw [hgd0, h]; rfl) | simp_all)))); ((first | ((with_reducible apply qAd); (conv => lhs; whnf)) | ((with_reducible apply qAJ); exact rfl; exact rfl; omega; omega)); (first | exact qAE _ | exact qBU _ _ | exact qBV _ _ _ | exact qBW _ _ _ _))) | (with_reducible first | apply qAh | apply qAi | apply qAg | apply qAF | apply qAm) | ((with_reducible apply rp); first | ((with_reducible apply qAd); (conv => lhs; whnf)) | ((with_reducible apply qAJ); exact rfl; exact rfl; omega; omega)))
          refine ⟨_, _, ?_, ?_, k + 1, by omega, rfl, .inr rfl⟩
          · omega
          · rw [hany, hfil]
            refine qAx [] (by repeat' (first | exact qAI | (refine qAD rfl (by exact SubA.refl _) ?_))) (by repeat' (first | exact trivial | exact rfl | exact kb_d rfl | refine And.intro ?_ ?_)) rfl (by repeat' (first | exact trivial | exact qAH _ | exact qA7 rfl | exact qAp rfl | refine And.intro ?_ ?_)) (by repeat' (first | exact trivial | exact qAH _ | exact qA7 rfl | exact qAp rfl | refine And.intro ?_ ?_))
        | false =>
          rw [hy] at hfil
          have hfil : (rs.take (k + 1)).filter (fun r => !y r) = F ++ [r] := hfil
          refine qAo rfl (fun _ => ?_) (fun hc => (by cases hc))
          repeat (first | ((first | (with_reducible apply rpGT) | (with_reducible apply drGT) | (with_reducible apply qCw) | (with_reducible apply qCv)); exact rfl; (first | exact qAZ rfl | exact qAR rfl | exact qBt rfl | exact qBu rfl); (first | exact rfl | assumption | decide); (focus repeat' (first | exact trivial | exact fun h => h | refine And.intro ?_ ?_ | (intro h; (first | exact h | (simp only [Bool.and_eq_true] at h; (first | exact h.1 | exact h.1.1 | exact h.1.1.1 | exact h.2)) | (rw [h]; rfl) | (rw [hgd0, h]; rfl) | simp_all)))); ((first | ((with_reducible first | apply qAd | apply qAa); (conv => lhs; whnf)) | ((with_reducible apply qAJ); exact rfl; exact rfl; omega; omega) | ((with_reducible apply qA6); exact tyOk rfl; exact rfl; exact tyOk rfl; exact rfl; exact rfl; (focus repeat' (first | exact trivial | refine And.intro rfl (And.intro rfl ?_))); decide; decide; exact rfl) | ((with_reducible apply qBx); exact tyOk rfl; exact rfl; exact tyOk rfl; (iterate 3 exact rfl); decide; (first | (dsimp only; simp only [List.length_map, List.length_append, List.length_cons, List.length_nil] at *; omega) | (simp only [List.length_map, List.length_append, List.length_cons, List.length_nil] at *; omega)); (first | (dsimp only; simp only [List.length_map, List.length_append, List.length_cons, List.length_nil] at *; omega) | (simp only [List.length_map, List.length_append, List.length_cons, List.length_nil] at *; omega)); exact rfl)); (first | exact qAE _ | exact qBU _ _ | exact qBV _ _ _ | exact qBW _ _ _ _))) | (with_reducible first | apply qAh | apply qAi | apply qAg | apply qAF) | ((with_reducible apply rp); first | ((with_reducible apply qAd); (conv => lhs; whnf)) | ((with_reducible apply qAa); (conv => lhs; whnf)) | ((with_reducible apply qAJ); exact rfl; exact rfl; omega; omega)) | ((with_reducible apply rp1); ((with_reducible apply qA6); exact tyOk rfl; exact rfl; exact tyOk rfl; exact rfl; exact rfl; (focus repeat' (first | exact trivial | refine And.intro rfl (And.intro rfl ?_))); decide; decide; exact rfl)) | ((with_reducible apply rp2); ((with_reducible apply qBx); exact tyOk rfl; exact rfl; exact tyOk rfl; (iterate 3 exact rfl); decide; (first | (dsimp only; simp only [List.length_map, List.length_append, List.length_cons, List.length_nil] at *; omega) | (simp only [List.length_map, List.length_append, List.length_cons, List.length_nil] at *; omega)); (first | (dsimp only; simp only [List.length_map, List.length_append, List.length_cons, List.length_nil] at *; omega) | (simp only [List.length_map, List.length_append, List.length_cons, List.length_nil] at *; omega)); exact rfl)))
          refine ⟨_, _, ?_, ?_, k + 1, by omega, rfl, .inr rfl⟩
          · omega
          · rw [hany, hfil, List.map_append, List.length_append]
            refine qAx [(17, 79)] (by repeat' (first | exact qAI | (refine qAD rfl (by (first | exact SubA.refl _ | exact qDE (by (simp; done)))) ?_))) (by repeat' (first | exact trivial | exact rfl | exact kb_d rfl | refine And.intro ?_ ?_)) rfl (by repeat' (first | exact trivial | exact qAH _ | exact qA7 rfl | exact qAp rfl | refine And.intro ?_ ?_)) (by repeat' (first | exact trivial | exact qAH _ | exact qA7 rfl | exact qAp rfl | refine And.intro ?_ ?_))
      · have hke : k = rs.length := by simp at hd; omega
        clear hd
        subst hke
        rw [List.take_length] at *
        rcases hfin with ⟨f1, f2, f3⟩ | ⟨f1, f2, f3, f4, f5⟩
        · rw [f1]
          subst f3
          have e1 : (((er : Nat) : Int) != 0) = true := by simpa using f2
          repeat (first | ((first | (with_reducible apply rpGT) | (with_reducible apply drGT) | (with_reducible apply qCw) | (with_reducible apply qCv)); exact rfl; exact qAZ rfl; (first | exact rfl | assumption | decide); (focus repeat' (first | exact trivial | refine And.intro ?_ ?_)); ((first | (exact qEA e1 rfl rfl) | ((with_reducible apply qAf); exact rfl; exact rfl; exact (tt); exact rfl) | ((with_reducible first | apply qAd | apply qAa); (conv => lhs; whnf)) | ((with_reducible first | apply qAQ | apply qAt) <;> first | exact rfl | exact trivial)); (first | exact qAE _ | exact qBU _ _ | exact qBV _ _ _ | exact qBW _ _ _ _))) | (with_reducible first | apply qAj | apply qAh | apply qAi | apply qAg | apply qBd | apply qBa | apply qBc | apply qAu | apply qAS | apply qAy) | ((with_reducible apply rp); first | (exact qEA e1 rfl rfl) | ((with_reducible apply qAf); exact rfl; exact rfl; exact (tt); exact rfl) | ((with_reducible apply qAd); (conv => lhs; whnf)) | ((with_reducible apply qAa); (conv => lhs; whnf)) | ((with_reducible apply qAQ); (iterate 3 exact rfl); exact trivial) | ((with_reducible apply qAt); exact rfl; exact rfl)) | ((with_reducible apply qBo); exact rfl; exact rfl))
          (with_reducible apply qAz); (focus (repeat' (first | (with_reducible apply qAw) | (with_reducible apply qAr) | ((with_reducible apply qAB); exact rfl)))); exact rfl; refine SubD.of_eq ?_
          rfl
        · rw [f1]
          subst f2
          subst f3
          subst f5
          have e1 : ((rs.length : Nat) : Int) - (((rs.filter fun r => !y r).length : Nat) : Int) = ((tn : Nat) : Int) := by omega
          generalize rs.filter (fun r => !y r) = F at *
          have e2 : (((tn : Nat) : Int) == ((tn : Nat) : Int)) = true := by simp
          repeat (first | ((first | (with_reducible apply rpGT) | (with_reducible apply drGT) | (with_reducible apply qCw) | (with_reducible apply qCv)); exact rfl; exact qAZ rfl; (first | exact rfl | assumption | decide); (focus repeat' (first | exact trivial | refine And.intro ?_ ?_)); ((first | (exact qA4 (z := ((tn : Nat) : Int)) rfl rfl e1 (by omega) (by omega)) | (exact qDN e2 rfl rfl) | ((with_reducible apply qAf); exact rfl; exact rfl; (first | exact (s1) | exact (tt)); exact rfl) | ((with_reducible first | apply qAd | apply qAa); (conv => lhs; whnf)) | ((with_reducible first | apply qAQ | apply qAt | apply qA3) <;> first | ((with_reducible apply tyOk); exact rfl) | exact rfl | exact trivial) | ((with_reducible apply qCI); exact tyOk rfl; exact rfl; exact rfl)); (first | exact qAE _ | exact qBU _ _ | exact qBV _ _ _ | exact qBW _ _ _ _))) | (with_reducible first | apply qAj | apply qAh | apply qAi | apply qAg | apply qBd | apply qBa | apply qBc | apply qAu | apply qAy | apply qAm) | ((with_reducible apply rp); first | (exact qA4 (z := ((tn : Nat) : Int)) rfl rfl e1 (by omega) (by omega)) | (exact qDN e2 rfl rfl) | ((with_reducible apply qAf); exact rfl; exact rfl; exact (s1); exact rfl) | ((with_reducible apply qAf); exact rfl; exact rfl; exact (tt); exact rfl) | ((with_reducible apply qAd); (conv => lhs; whnf)) | ((with_reducible apply qAa); (conv => lhs; whnf)) | ((with_reducible apply qAQ); (iterate 3 exact rfl); exact trivial) | ((with_reducible apply qAt); exact rfl; exact rfl) | ((with_reducible apply qA3); exact tyOk rfl; exact rfl; exact rfl) | ((with_reducible apply qCI); exact tyOk rfl; exact rfl; exact rfl)) | ((with_reducible apply qA9); exact rfl; exact rfl))
          (with_reducible apply qAz); (focus (repeat' (first | (with_reducible apply qAw) | (with_reducible apply qAr) | ((with_reducible apply qAB); exact rfl)))); exact rfl; refine SubD.of_eq ?_
          rfl
theorem dr_ok {t : Tb} (h : TbOk t) {i : Nat} (y : List Vl → Bool) : TbOk (t.dr i ((drF t.a t.b i).map (delC y))) := by
  unfold Tb.dr drF
  split
  · exact ⟨h.name, h.cols, h.key, del_ok h.a y, h.b⟩
  · exact ⟨h.name, h.cols, h.key, h.a, del_ok h.b y⟩
theorem dr_drF (t : Tb) (i : Nat) (d : List Ce) : drF (t.dr i d).a (t.dr i d).b i = d := by
  unfold Tb.dr drF
  by_cases h : i = 0
  · rw [if_pos h, if_pos h]
  · rw [if_neg h, if_neg h]
theorem dr_cols (t : Tb) (i : Nat) (d : List Ce) : (t.dr i d).cols = t.cols := by unfold Tb.dr; split <;> rfl
set_option maxHeartbeats 4000000 in
theorem deleteParts_pc (l : List Raw) (dz : Int) : PC Tryd.prog 5 [qBi l, iD dz] (bD true) := by
  have g1 := tabled_pg l
  have hc := colsF_ok (l.take (l.length % 4))
  have hk : ∃ n l', qCA l = ⟨n, 2, false⟩ :: l' := ⟨_, _, rfl⟩
  have h0 : ∀ c, (qCA l)[0]? = some c → c.kind = 2 := fun c h => by injection h with h; subst h; rfl
  obtain ⟨ht, htc, hkt⟩ := tabF_ok (l.take 40) (cols := qCA l) hc hk h0 (l.length % 8)
  have hs := tabC_sub (l.take 40) (qCA l) (l.length % 8)
  have hcl : (tabC (l.take 40) (qCA l) (l.length % 8)).length = 19 := by
    unfold tabC
    split
    · rfl
    · exact Tb.len ht
  have hcol : (tabC (l.take 40) (qCA l) (l.length % 8))[2]? = some (qAY (qCA l)) := by
    have hl : ((tabF (l.take 40) (qCA l) (l.length % 8)).cs)[2]? = some (qAY (qCA l)) := by
      show some (qAY (tabF (l.take 40) (qCA l) (l.length % 8)).cols) = _
      rw [htc]
    unfold tabC
    split
    · rfl
    · exact hl
  have hL8 : l.length % 8 < 8 := Nat.mod_lt _ (by decide)
  have hl5 := hc.len
  have hnn : l.length % 8 * ((qCA l).length + 1) ≤ 8 * 6 := Nat.mul_le_mul (by omega) (by unfold qCA; omega)
  obtain ⟨i, hi⟩ : ∃ i : Nat, dz % ((2 : Nat) : Int) = i := ⟨(dz % 2).toNat, by omega⟩
  have hi2 : i < 2 := by omega
  have p2 := qAO dz 2 (by omega) (by omega)
  rw [hi] at p2
  have hl5' : (qCA l).length ≤ 5 := hl5
  obtain ⟨x, n2, hx, _, _, x1⟩ := expr_pc (l.take 40) (qCA l) (by omega) 2 1 (l.length % 8 * ((qCA l).length + 1)) (by omega) (by omega) (by omega) (by omega)
  have hok := hx.ok (fun c h => hc.name c h)
  have hdp : x.deep ≤ 7 := by have := hx.deep; omega
  have hnm : x.num ≤ 40 := by have := hx.num; omega
  have hkd : Kd (ofF (qCA l) x) 1 := hx.kind hc.once
  unfold hpB at x1
  clear hkt hi hx
  generalize tabC (l.take 40) (qCA l) (l.length % 8) = cs at *
  generalize tabF (l.take 40) (qCA l) (l.length % 8) = t at *
  generalize l.length % 8 * ((qCA l).length + 1) = nn at *
  rw [← htc] at hkd
  obtain ⟨oa, ob, j, _, _, c1, _, e1, _, _⟩ := one_both hi2
  have sub : ∀ o : D, qBC [.ag cs, o] [.ag t.cs, o] := fun o => qBC.cons (SubD.ag hs) id (qBC.refl _)
  have sub3 : ∀ o u : D, qBC [.ag cs, o, u] [.ag t.cs, o, u] := fun o u => qBC.cons (SubD.ag hs) id (qBC.refl _)
  have rA := (rows_pc t ht oa ob).args (sub _)
  rw [e1] at rA
  have hdr := ht.dr i
  obtain ⟨_, hmem⟩ := qB7 hdr
  have hH : ∀ r ∈ qBS true (drF t.a t.b i) [], PC Tryd.prog 28 [.ag x.cs, qAY (qCA l), qBz r] (.tu [bD (holF t.cols r x), iD (evF t.cols r x).e]) := fun r hr => by
    obtain ⟨c, hc', hf, rfl⟩ := (hmem r).1 hr
    have := holds_pc t.cols ht.cols x hok hdp hnm hkd c.row ((hdr.ok c hc').fit hf)
    rw [htc] at this ⊢
    exact this
  have h5 := step_len5 ht.cols hdr
  have hA4 := (qFl ht.key true hdr.ok (acc := []) (fun p hp => absurd hp (by simp))).2
  rw [hdr.len] at hA4
  simp only [List.length_nil, Nat.zero_add] at hA4
  have s1 := sameRows_pc ((qBS true (drF t.a t.b i) []).filter fun r => !(holF t.cols r x)) (Nat.le_trans (List.length_filter_le _ _) (by omega)) (fun r hr => h5 r (List.mem_filter.1 hr).1)
  have tt := tableTells_pc
  by_cases hbad : ∃ c ∈ drF t.a t.b i, c.full = true ∧ (evF t.cols c.row x).e ≠ 0
  · obtain ⟨er, her, dl⟩ := delete_bad t ht i hi2 x hok hdp hnm hkd hbad
    have dl2 := dl.args (sub3 _ _)
    refine qDq l (l.take 40) (qCA l) cs tb0 x.cs nn n2 i 0 er 5 dz (qBS true (drF t.a t.b i) []) .nl oa ob (fun r => holF t.cols r x) (fun r => (evF t.cols r x).e) g1 hcl rfl x.cs_len hcol p2 x1 dl2 c1 rA (rowsN_pc oa ob) hH tt s1 hA4 (.inl ⟨?_, her, rfl⟩)
    obtain ⟨c, hcm, hcf, hce⟩ := hbad
    rw [List.any_eq_true]
    exact ⟨c.row, (hmem _).2 ⟨c, hcm, hcf, rfl⟩, by simpa using hce⟩
  · have hall : ∀ c ∈ drF t.a t.b i, c.full = true → (evF t.cols c.row x).e = 0 := fun c hcm hcf => Decidable.byContradiction fun he => hbad ⟨c, hcm, hcf, he⟩
    have dl2 := (delete_ok t ht i hi2 x hok hdp hnm hkd hall).args (sub3 _ _)
    obtain ⟨q1, _, _, q4⟩ := qEO (fun r => holF t.cols r x) ht hi2 4 (Nat.le_refl _)
    rw [delD_all _ hdr.len] at q4
    have rB := (rows_pc _ (dr_ok ht (i := i) (fun r => holF t.cols r x)) oa ob).args (qBC.cons (SubD.ag q4) id (qBC.refl _))
    rw [e1, dr_drF, step_del hdr] at rB
    have hcnt := del_count hdr (fun r => holF t.cols r x)
    refine qDq l (l.take 40) (qCA l) cs _ x.cs nn n2 i _ 0 0 dz (qBS true (drF t.a t.b i) []) _ oa ob (fun r => holF t.cols r x) (fun r => (evF t.cols r x).e) g1 hcl q1 x.cs_len hcol p2 x1 dl2 c1 rA rB hH tt s1 hA4 (.inr ⟨?_, rfl, rfl, hcnt, rfl⟩)
    rw [List.any_eq_false]
    intro r hr
    obtain ⟨c, hcm, hcf, rfl⟩ := (hmem r).1 hr
    have := hall c hcm hcf
    simp [this]
theorem qFc (A : Option Addr) (l : List Raw) (c : Nat) (dz : Int) (w : World) (h : RdR w w.heap.size A l) (hc : l.length ≤ c) (_ : c * 40 ≤ 140737488351232) (hr : ∀ r ∈ l, r.ok) (hd : I64 dz) (hg : GlOk (Lt w) w) : Calls Tryd.prog 5 #[.slice A l.length c, .int .i64 dz] w fun e w' => e = .returned (.bool true) ∧ Below w.heap.size w w' :=
  calls_of_pc (deleteParts_pc l dz) (rep_cons (rep_raws h hc) (rep_cons (rep_int w dz) rfl)) hg
end Go.Proofs.YtpaccaojgbfjdaaDoor

