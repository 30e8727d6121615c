/-
  lex.Cut. No condition but the size.
-/
import Derived.Test.YtlpnnnmdkglkcaaDoorZLexU
set_option linter.unusedSimpArgs false
set_option linter.unusedVariables false
namespace Go.Proofs.YtlpnnnmdkglkcaaDoor
open Go.RowKit

def crD : CR → D
  | .ok T => .tu [toksD T, iD 0, iD 0]
  | .err p e => .tu [toksD [], iD p, iD e]
def cutT (l : List UInt8) : CR := if 300 < l.length then .err 0 1 else cutF (l.length + 1) 0 0 l
def cutG (f q k : Nat) : List UInt8 → CR
  | [] => .ok []
  | c :: m => if k = 100 then .err q 1 else match tokF (c :: m) with
    | .err e => .err q e
    | .ok t n => (cutF f (q + n) (k + 1) ((c :: m).drop n)).cons t
theorem cut_G (f p k : Nat) (l : List UInt8) : cutF (f + 1) p k l = cutG f (p + blkN false l) k (l.drop (blkN false l)) := by
  rw [cutF]
  cases l.drop (blkN false l) <;> rfl
theorem cons_all (T : List Tk) (t : Tk) (r : CR) : qCe T (r.cons t) = qCe (T ++ [t]) r := by
  unfold qCe
  rw [List.foldr_append]
  rfl
set_option maxHeartbeats 8000000 in
theorem cut_pc (s : ByteArray) (hs : s.size ≤ 1000000) (R : CR) (hR : cutT s.data.toList = R) : PC Tryd.prog 15 [strD s] (crD R) := by
  unfold cutT at hR
  have hsl := qDg s
  rw [← hsl] at hR
  by_cases h300 : 300 < s.size
  · rw [if_pos h300] at hR
    subst hR
    have hg : decide ((s.size : Int) > 300) = true := decide_eq_true (by omega)
    refine qAM Tryd.func15 rfl (by kernel_rfl) mixed (by kernel_rfl) (qle (by kernel_rfl)) Tryd.results15 ?_
    repeat (first | ((first | (with_reducible apply rpGT) | (with_reducible apply drGT) | (with_reducible apply qAP) | (with_reducible apply qAO)); eq_refl; (first | exact qAo rfl | exact qAt rfl | exact qAw rfl | exact qAy rfl); (first | eq_refl | assumption | decide); (focus repeat' (first | exact trivial | exact id | apply And.intro | (intro h; (first | exact h | (simp only [Bool.and_eq_true] at h; (first | exact h.1 | exact h.1.1 | exact h.1.1.1 | exact h.2)) | (rw [h]; rfl) | (rw [zh, h]; rfl) | simp_all)))); ((first | (exact qAZ hg rfl rfl) | ((with_reducible first | apply qAc | apply qAa); (conv => lhs; whnf)) | ((with_reducible apply qAg); exact tyOk rfl; eq_refl; eq_refl)); (first | exact qAh _ | exact qAp _ _ | exact qAr _ _ _ | exact qAq _ _ _ _))) | (with_reducible first | apply qAl | apply qAm | apply qAn | apply qAk | apply qAF | apply qBs | apply qAX) | ((with_reducible apply rp); first | (exact qAZ hg rfl rfl) | ((with_reducible apply qAc); (conv => lhs; whnf)) | ((with_reducible apply qAa); (conv => lhs; whnf)) | ((with_reducible apply qAg); exact tyOk rfl; eq_refl; eq_refl)) | ((with_reducible apply qBr); eq_refl; eq_refl))
    (with_reducible apply qAY); (focus (repeat' (first | (with_reducible apply qAE) | (with_reducible apply qAx) | ((with_reducible apply qAI); eq_refl)))); exact rfl
    exact SubD.tu (qCL.cons (SubD.nil 4) (fun _ => rfl) (qCL.refl _))
  · rw [if_neg h300] at hR
    have hg : decide ((s.size : Int) > 300) = false := decide_eq_false (by omega)
    have b0 := blanks_px s hs 0 (Nat.zero_le _)
    have hR : cutF (s.size + 1) 0 0 (qAN s 0) = R := hR
    have hb0 := qEa false (qAN s 0)
    rw [qCy] at hb0
    rw [cut_G, qEs] at hR
    have hj0 : 0 + blkN false (qAN s 0) ≤ s.size := by omega
    generalize 0 + blkN false (qAN s 0) = j0 at *
    refine qAM Tryd.func15 rfl (by kernel_rfl) mixed (by kernel_rfl) (qle (by kernel_rfl)) Tryd.results15 ?_
    repeat (first | ((first | (with_reducible apply rpGT) | (with_reducible apply drGT) | (with_reducible apply qAP) | (with_reducible apply qAO)); eq_refl; (first | exact qAo rfl | exact qAt rfl | exact qAw rfl | exact qAy rfl); (first | eq_refl | assumption | decide); (focus repeat' (first | exact trivial | exact id | apply And.intro | (intro h; (first | exact h | (simp only [Bool.and_eq_true] at h; (first | exact h.1 | exact h.1.1 | exact h.1.1.1 | exact h.2)) | (rw [h]; rfl) | (rw [zh, h]; rfl) | simp_all)))); (first | ((refine qAG [(1000, 15)] [(1000, 15)] (ups := [(15, .var 73 [.d (strD s), .d (iD (j0 : Nat))])]) rfl (b0) rfl (kpX rfl) rfl (insX rfl) (insQ rfl) rfl rfl rfl rfl rfl (insX rfl) rfl rfl); (first | exact qAh _ | exact qAp _ _ | exact qAr _ _ _ | exact qAq _ _ _ _)) | ((first | (exact qAZ hg rfl rfl) | ((with_reducible first | apply qAc | apply qAa); (conv => lhs; whnf)) | ((with_reducible first | apply qAg | apply qAB) <;> first | ((with_reducible apply tyOk); eq_refl) | eq_refl) | ((with_reducible apply qAQ); exact tyOk rfl; eq_refl; eq_refl; (focus repeat' (first | eq_refl | refine ⟨_, _, rfl, rfl, qle rfl, rfl, ?_⟩)); eq_refl)); (first | exact qAh _ | exact qAp _ _ | exact qAr _ _ _ | exact qAq _ _ _ _)))) | (with_reducible first | apply qAl | apply qAm | apply qAn | apply qAk | apply qAs | apply qAC) | ((with_reducible apply rp); first | (exact qAZ hg rfl rfl) | ((with_reducible apply qAc); (conv => lhs; whnf)) | ((with_reducible apply qAa); (conv => lhs; whnf)) | ((with_reducible apply qAg); exact tyOk rfl; eq_refl; eq_refl) | ((with_reducible apply qAQ); exact tyOk rfl; eq_refl; eq_refl; (focus repeat' (first | eq_refl | refine ⟨_, _, rfl, rfl, qle rfl, rfl, ?_⟩)); eq_refl)) | ((with_reducible apply rp1); ((with_reducible apply qAB); eq_refl; eq_refl)) | ((with_reducible apply rpL); (refine qAG [(1000, 15)] [(1000, 15)] (ups := [(15, .var 73 [.d (strD s), .d (iD (j0 : Nat))])]) rfl (b0) rfl (kpX rfl) rfl (insX rfl) (insQ rfl) rfl rfl rfl rfl rfl (insX rfl) rfl rfl); exact qAh _) | ((with_reducible apply qBl); eq_refl; eq_refl))
    refine qB5 (fun m st => ∃ (j f q : Nat) (T : List Tk), j ≤ s.size ∧ s.size ≤ j + f ∧ T.length = q ∧ q ≤ 100 ∧ qCe T (cutG f j q (qAN s j)) = R ∧ s.size - j = m ∧ st = ⟨[(0, .d (strD s)), (5, .px 15 0), (6, .ow 2000 q)], [(15, .var 73 [.d (strD s), .d (iD (j : Nat))]), (2000, .row 32 4 (T.map Tk.cs))]⟩) _ _ ?_ ⟨j0, s.size, 0, [], hj0, by omega, rfl, by omega, hR, rfl, rfl⟩ ?_
    · refine Ent.trans (ent_nil 6 2000 32 4 rfl rfl) ?_
      refine qAT [] (by repeat' (first | exact qA0 | (refine qAH rfl (by exact SubA.refl _) ?_))) (kpX rfl) rfl (insS rfl) (insX rfl)
    · rintro m st ⟨j, f, q, T, hj, hf, hq, hq100, hC, rfl, rfl⟩
      clear hR hb0 b0 hj0
      rcases Nat.lt_or_ge j s.size with hlt | hge
      · have hll : decide ((j : Int) < (s.size : Nat)) = true := decide_eq_true (by omega)
        obtain ⟨c, hb, hr⟩ := qCr hlt
        have hml : (T.map Tk.cs).length = q := by rw [List.length_map]; exact hq
        by_cases h100 : q = 100
        · have he : ((q : Int) == 100) = true := by rw [h100]; rfl
          rw [hr, cutG, if_pos h100, cons_err] at hC
          subst hC
          generalize T.map Tk.cs = es at *
          repeat (first | ((first | (with_reducible apply rpGT) | (with_reducible apply drGT) | (with_reducible apply qAP) | (with_reducible apply qAO)); eq_refl; (first | exact qAo rfl | exact qAt rfl | exact qAw rfl | exact qAy rfl); (first | eq_refl | assumption | decide); (focus repeat' (first | exact trivial | exact id | apply And.intro | (intro h; (first | exact h | (simp only [Bool.and_eq_true] at h; (first | exact h.1 | exact h.1.1 | exact h.1.1.1 | exact h.2)) | (rw [h]; rfl) | (rw [zh, h]; rfl) | simp_all)))); ((first | (exact qA4 hll rfl rfl) | (exact qAK he rfl rfl) | ((with_reducible first | apply qAc | apply qAa); (conv => lhs; whnf)) | ((with_reducible first | apply qAb | apply qAe | apply qBM | apply qAi) <;> first | ((with_reducible apply tyOk); eq_refl) | eq_refl | decide) | ((with_reducible apply qAg); exact tyOk rfl; eq_refl; eq_refl)); (first | exact qAh _ | exact qAp _ _ | exact qAr _ _ _ | exact qAq _ _ _ _))) | (with_reducible first | apply qAl | apply qAm | apply qAn | apply qAk | apply qAs | apply qAF | apply qBs | apply qBN | apply qAX | apply qAC) | ((with_reducible apply rp); first | (exact qA4 hll rfl rfl) | (exact qAK he rfl rfl) | ((with_reducible apply qAc); (conv => lhs; whnf)) | ((with_reducible apply qAa); (conv => lhs; whnf)) | ((with_reducible apply qAb); exact tyOk rfl; eq_refl; eq_refl; decide; eq_refl) | ((with_reducible apply qAe); exact tyOk rfl; (iterate 4 eq_refl)) | ((with_reducible apply qBM); exact tyOk rfl; eq_refl; eq_refl) | ((with_reducible apply qAg); exact tyOk rfl; eq_refl; eq_refl) | ((with_reducible apply qAi); eq_refl)) | ((with_reducible apply qBr); eq_refl; eq_refl))
          (with_reducible apply qAY); (focus (repeat' (first | (with_reducible apply qAE) | (with_reducible apply qAx) | ((with_reducible apply qAI); eq_refl)))); exact rfl
          exact SubD.tu (qCL.cons (SubD.nil 4) (fun _ => rfl) (qCL.refl _))
        · have he : ((q : Int) == 100) = false := by rw [beq_eq_false_iff_ne]; omega
          have tk := token_px s hs j hlt _ rfl
          rw [hr, cutG, if_neg h100, ← hr] at hC
          cases ht : tokF (qAN s j) with
          | err e =>
            rw [ht] at hC tk
            have hC : qCe T (.err j e) = R := hC
            rw [cons_err] at hC
            subst hC
            have he0 := tok_err ht
            have hne : ((e : Int) != 0) = true := by rw [bne_iff_ne]; omega
            have tk : PX Tryd.prog 31 [.px 1000 0] (scB s j) [] (.tu [.ag noT, iD e]) (scB s (j + tokP (qAN s j))) [] := tk
            generalize tokP (qAN s j) = n at *
            generalize T.map Tk.cs = es at *
            repeat (first | ((first | (with_reducible apply rpGT) | (with_reducible apply drGT) | (with_reducible apply qAP) | (with_reducible apply qAO)); eq_refl; (first | exact qAo rfl | exact qAt rfl | exact qAw rfl | exact qAy rfl); (first | eq_refl | assumption | decide); (focus repeat' (first | exact trivial | exact id | apply And.intro | (intro h; (first | exact h | (simp only [Bool.and_eq_true] at h; (first | exact h.1 | exact h.1.1 | exact h.1.1.1 | exact h.2)) | (rw [h]; rfl) | (rw [zh, h]; rfl) | simp_all)))); (first | ((refine qAG [(1000, 15)] [(1000, 15)] (ups := [(15, .var 73 [.d (strD s), .d (iD (j + n : Nat))])]) rfl (tk) rfl (kpX rfl) rfl (insX rfl) (insQ rfl) rfl rfl rfl rfl rfl (insX rfl) rfl rfl); (first | exact qAh _ | exact qAp _ _ | exact qAr _ _ _ | exact qAq _ _ _ _)) | ((first | (exact qA4 hll rfl rfl) | (exact qAK he rfl rfl) | (exact qBT hne rfl rfl) | ((with_reducible first | apply qAc | apply qAa); (conv => lhs; whnf)) | ((with_reducible first | apply qAb | apply qAe | apply qAv | apply qBM | apply qAi | apply qAu | apply qAf) <;> first | ((with_reducible apply tyOk); eq_refl) | eq_refl | decide) | ((with_reducible apply qAg); exact tyOk rfl; eq_refl; eq_refl)); (first | exact qAh _ | exact qAp _ _ | exact qAr _ _ _ | exact qAq _ _ _ _)))) | (with_reducible first | apply qAl | apply qAm | apply qAn | apply qAk | apply qAs | apply qAF | apply qBs | apply qBN | apply qAX | apply qAC) | ((with_reducible apply rp); first | (exact qA4 hll rfl rfl) | (exact qAK he rfl rfl) | (exact qBT hne rfl rfl) | ((with_reducible apply qAc); (conv => lhs; whnf)) | ((with_reducible apply qAa); (conv => lhs; whnf)) | ((with_reducible apply qAb); exact tyOk rfl; eq_refl; eq_refl; decide; eq_refl) | ((with_reducible apply qAe); exact tyOk rfl; (iterate 4 eq_refl)) | ((with_reducible apply qAv); eq_refl; eq_refl) | ((with_reducible apply qBM); exact tyOk rfl; eq_refl; eq_refl) | ((with_reducible apply qAg); exact tyOk rfl; eq_refl; eq_refl) | ((with_reducible apply qAi); eq_refl)) | ((with_reducible apply rp1); ((with_reducible apply qAu); exact tyOk rfl; eq_refl)) | ((with_reducible apply rpN); ((with_reducible apply qAf); exact tyOk rfl; (iterate 5 eq_refl))) | ((with_reducible apply rpL); (refine qAG [(1000, 15)] [(1000, 15)] (ups := [(15, .var 73 [.d (strD s), .d (iD (j + n : Nat))])]) rfl (tk) rfl (kpX rfl) rfl (insX rfl) (insQ rfl) rfl rfl rfl rfl rfl (insX rfl) rfl rfl); exact qAh _) | ((with_reducible apply qBl); eq_refl; eq_refl) | ((with_reducible apply qBr); eq_refl; eq_refl))
            (with_reducible apply qAY); (focus (repeat' (first | (with_reducible apply qAE) | (with_reducible apply qAx) | ((with_reducible apply qAI); eq_refl)))); exact rfl
            exact SubD.tu (qCL.cons (SubD.nil 4) (fun _ => rfl) (qCL.refl _))
          | ok t n =>
            rw [ht] at hC tk
            have hp := tok_pos ht
            rw [hp] at tk
            obtain ⟨_, ho1, ho2⟩ := tok_ok ht
            rw [qCy] at ho2
            have hC2 : qCe T ((cutF f (j + n) (q + 1) ((qAN s j).drop n)).cons t) = R := hC
            clear hC
            obtain ⟨f', rfl⟩ : ∃ f', f = f' + 1 := ⟨f - 1, by omega⟩
            rw [cons_all, qEs, cut_G, qEs] at hC2
            have b1 := blanks_px s hs (j + n) (by omega)
            have hbl := qEa false (qAN s (j + n))
            rw [qCy] at hbl
            have hj2 : j + n + blkN false (qAN s (j + n)) ≤ s.size := by omega
            have hj3 : j < j + n + blkN false (qAN s (j + n)) := by omega
            have hl2 : (T ++ [t]).length = q + 1 := by rw [List.length_append, hq]; rfl
            have e1 : (T ++ [t]).map Tk.cs = T.map Tk.cs ++ [t.cs] := by rw [List.map_append]; rfl
            generalize j + n + blkN false (qAN s (j + n)) = j2 at *
            generalize T ++ [t] = T2 at *
            generalize T.map Tk.cs = es at *
            obtain ⟨tk', tt, tn, tb⟩ := t
            have tk : PX Tryd.prog 31 [.px 1000 0] (scB s j) [] (.tu [.ag [iD tk', strD tt, iD tn, qD tb], iD 0]) (scB s (j + n)) [] := tk
            have e1 : T2.map Tk.cs = es ++ [[iD tk', strD tt, iD tn, qD tb]] := e1
            clear hp ht hr
            repeat (first | ((first | (with_reducible apply rpGT) | (with_reducible apply drGT) | (with_reducible apply qAP) | (with_reducible apply qAO)); eq_refl; (first | exact qAo rfl | exact qAt rfl | exact qAw rfl | exact qAy rfl); (first | eq_refl | assumption | decide); (focus repeat' (first | exact trivial | exact id | apply And.intro | (intro h; (first | exact h | (simp only [Bool.and_eq_true] at h; (first | exact h.1 | exact h.1.1 | exact h.1.1.1 | exact h.2)) | (rw [h]; rfl) | (rw [zh, h]; rfl) | simp_all)))); (first | ((refine qAG [(1000, 15)] [(1000, 15)] (ups := [(15, .var 73 [.d (strD s), .d (iD (j + n : Nat))])]) rfl (tk) rfl (kpX rfl) rfl (insX rfl) (insQ rfl) rfl rfl rfl rfl rfl (insX rfl) rfl rfl); (first | exact qAh _ | exact qAp _ _ | exact qAr _ _ _ | exact qAq _ _ _ _)) | ((refine qAG [(1000, 15)] [(1000, 15)] (ups := [(15, .var 73 [.d (strD s), .d (iD (j2 : Nat))])]) rfl (b1) rfl (kpX rfl) rfl (insX rfl) (insQ rfl) rfl rfl rfl rfl rfl (insX rfl) rfl rfl); (first | exact qAh _ | exact qAp _ _ | exact qAr _ _ _ | exact qAq _ _ _ _)) | ((first | (exact qA4 hll rfl rfl) | (exact qAK he rfl rfl) | ((with_reducible first | apply qAc | apply qAa); (conv => lhs; whnf)) | ((with_reducible first | apply qAb | apply qAe | apply qBq | apply qAv | apply qBM | apply qAi | apply qAu | apply qAf) <;> first | ((with_reducible apply tyOk); eq_refl) | eq_refl | decide) | ((with_reducible apply qAU); exact tyOk rfl; (iterate 3 eq_refl); exact qle rfl; eq_refl) | ((with_reducible apply qAg); exact tyOk rfl; eq_refl; eq_refl) | ((with_reducible apply qAV); exact tyOk rfl; eq_refl; exact tyOk rfl; eq_refl; eq_refl; (focus repeat' (first | exact trivial | refine And.intro rfl (And.intro rfl ?_))); decide; decide; eq_refl) | ((with_reducible apply qBx); exact tyOk rfl; eq_refl; exact tyOk rfl; (iterate 3 eq_refl); decide; (first | (dsimp only; simp only [List.length_map, List.length_append, List.length_cons, List.length_nil] at *; omega) | (simp only [List.length_map, List.length_append, List.length_cons, List.length_nil] at *; omega)); (first | (dsimp only; simp only [List.length_map, List.length_append, List.length_cons, List.length_nil] at *; omega) | (simp only [List.length_map, List.length_append, List.length_cons, List.length_nil] at *; omega)); eq_refl)); (first | exact qAh _ | exact qAp _ _ | exact qAr _ _ _ | exact qAq _ _ _ _)))) | (with_reducible first | apply qAl | apply qAm | apply qAn | apply qAk | apply qAs | apply qA2 | apply qAC) | ((with_reducible apply rp); first | (exact qA4 hll rfl rfl) | (exact qAK he rfl rfl) | ((with_reducible apply qAc); (conv => lhs; whnf)) | ((with_reducible apply qAa); (conv => lhs; whnf)) | ((with_reducible apply qAb); exact tyOk rfl; eq_refl; eq_refl; decide; eq_refl) | ((with_reducible apply qAe); exact tyOk rfl; (iterate 4 eq_refl)) | ((with_reducible apply qAU); exact tyOk rfl; (iterate 3 eq_refl); exact qle rfl; eq_refl) | ((with_reducible apply qBq); eq_refl; eq_refl) | ((with_reducible apply qAv); eq_refl; eq_refl) | ((with_reducible apply qBM); exact tyOk rfl; eq_refl; eq_refl) | ((with_reducible apply qAg); exact tyOk rfl; eq_refl; eq_refl) | ((with_reducible apply qAi); eq_refl)) | ((with_reducible apply rp1); first | ((with_reducible apply qAu); exact tyOk rfl; eq_refl) | ((with_reducible apply qAV); exact tyOk rfl; eq_refl; exact tyOk rfl; eq_refl; eq_refl; (focus repeat' (first | exact trivial | refine And.intro rfl (And.intro rfl ?_))); decide; decide; eq_refl)) | ((with_reducible apply rp2); ((with_reducible apply qBx); exact tyOk rfl; eq_refl; exact tyOk rfl; (iterate 3 eq_refl); decide; (first | (dsimp only; simp only [List.length_map, List.length_append, List.length_cons, List.length_nil] at *; omega) | (simp only [List.length_map, List.length_append, List.length_cons, List.length_nil] at *; omega)); (first | (dsimp only; simp only [List.length_map, List.length_append, List.length_cons, List.length_nil] at *; omega) | (simp only [List.length_map, List.length_append, List.length_cons, List.length_nil] at *; omega)); eq_refl)) | ((with_reducible apply rpN); ((with_reducible apply qAf); exact tyOk rfl; (iterate 5 eq_refl))) | ((with_reducible apply rpL); (refine qAG [(1000, 15)] [(1000, 15)] (ups := [(15, .var 73 [.d (strD s), .d (iD (j + n : Nat))])]) rfl (tk) rfl (kpX rfl) rfl (insX rfl) (insQ rfl) rfl rfl rfl rfl rfl (insX rfl) rfl rfl); exact qAh _) | ((with_reducible apply rpL); (refine qAG [(1000, 15)] [(1000, 15)] (ups := [(15, .var 73 [.d (strD s), .d (iD (j2 : Nat))])]) rfl (b1) rfl (kpX rfl) rfl (insX rfl) (insQ rfl) rfl rfl rfl rfl rfl (insX rfl) rfl rfl); exact qAh _) | ((with_reducible apply qBl); eq_refl; eq_refl) | ((with_reducible apply qBr); eq_refl; eq_refl))
            refine ⟨_, _, ?_, ?_, j2, f', q + 1, T2, hj2, by omega, hl2, by omega, hC2, rfl, rfl⟩
            · omega
            · rw [e1]
              refine qAT [(2000, 47)] (by repeat' (first | exact qA0 | (refine qAH rfl (by (first | exact SubA.refl _ | exact subA_ow (by (simp; omega)))) ?_))) ?_ rfl (by repeat' (first | exact trivial | exact qDC rfl | exact qBc rfl | apply And.intro)) (by repeat' (first | exact trivial | exact qDC rfl | exact qBc rfl | apply And.intro))
              exact qDi rfl rfl (qDi rfl (row_eq rfl) kb_nil)
      · have hll : decide ((j : Int) < (s.size : Nat)) = false := decide_eq_false (by omega)
        rw [qDt hge] at hC
        have hC : qCe T (.ok []) = R := hC
        rw [cons_ok, List.append_nil] at hC
        subst hC
        repeat (first | ((first | (with_reducible apply rpGT) | (with_reducible apply drGT) | (with_reducible apply qAP) | (with_reducible apply qAO)); eq_refl; (first | exact qAo rfl | exact qAt rfl | exact qAw rfl | exact qAy rfl); (first | eq_refl | assumption | decide); (focus repeat' (first | exact trivial | exact id | apply And.intro | (intro h; (first | exact h | (simp only [Bool.and_eq_true] at h; (first | exact h.1 | exact h.1.1 | exact h.1.1.1 | exact h.2)) | (rw [h]; rfl) | (rw [zh, h]; rfl) | simp_all)))); ((first | (exact qA4 hll rfl rfl) | ((with_reducible first | apply qAc | apply qAa); (conv => lhs; whnf)) | ((with_reducible first | apply qAb | apply qAe | apply qAg | apply qAi) <;> first | ((with_reducible apply tyOk); eq_refl) | eq_refl | decide)); (first | exact qAh _ | exact qAp _ _ | exact qAr _ _ _ | exact qAq _ _ _ _))) | (with_reducible first | apply qAl | apply qAm | apply qAn | apply qAk | apply qBJ | apply qBL | apply qBK | apply qAF | apply qAX) | ((with_reducible apply rp); first | (exact qA4 hll rfl rfl) | ((with_reducible apply qAc); (conv => lhs; whnf)) | ((with_reducible apply qAa); (conv => lhs; whnf)) | ((with_reducible apply qAb); exact tyOk rfl; eq_refl; eq_refl; decide; eq_refl) | ((with_reducible apply qAe); exact tyOk rfl; (iterate 4 eq_refl)) | ((with_reducible apply qAg); exact tyOk rfl; eq_refl; eq_refl) | ((with_reducible apply qAi); eq_refl)) | ((with_reducible apply qBl); eq_refl; eq_refl))
        (with_reducible apply qAY); (focus (repeat' (first | (with_reducible apply qAE) | (with_reducible apply qAx) | ((with_reducible apply qAI); eq_refl)))); eq_refl; refine SubD.of_eq ?_
        rfl
end Go.Proofs.YtlpnnnmdkglkcaaDoor

