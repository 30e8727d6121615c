/-
  chirograph/table: fresh, begun, Insert as contracts.
-/
import Derived.Test.YtpaccaojgbfjdaaDoorZTb2
import Derived.Test.YtpaccaojgbfjdaaDoorZG
set_option linter.unusedSimpArgs false
set_option linter.unusedVariables false
namespace Go.Proofs.YtpaccaojgbfjdaaDoor
open Go.RowKit

def tb0 : List D := [bD false, strD .empty, .nl, bD false, .nl, bD false, .nl, bD false, .nl, bD false, .nl, bD false, .nl, bD false, .nl, bD false, .nl, bD false, .nl]
theorem qEU : ∀ {d : List Ce}, d.length = 4 → ∃ c0 c1 c2 c3, d = [c0, c1, c2, c3]
  | [c0, c1, c2, c3], _ => ⟨c0, c1, c2, c3, rfl⟩
theorem qDH {cols : List Cl} (hl : cols.length ≤ 5) {c : Ce} (h : CeOk cols c) : c.row.length ≤ 1000000 := by
  cases hf : c.full with
  | true => have := (h.fit hf).len; omega
  | false => rw [h.none hf]; simp
set_option maxHeartbeats 4000000 in
theorem fresh_pc (t : Tb) (h : TbOk t) : PC Tryd.prog 66 [.ag t.cs] (.ag t.cs) := by
  obtain ⟨tn, tc, a, b⟩ := t
  obtain ⟨hn, hc, hk, ha, hb⟩ := h
  dsimp only at *
  have hl5 := hc.len
  obtain ⟨a0, a1, a2, a3, rfl⟩ := qEU ha.len
  obtain ⟨b0, b1, b2, b3, rfl⟩ := qEU hb.len
  have p0 := qCP a0.row (qDH hl5 (ha.ok a0 (by simp)))
  have p1 := qCP a1.row (qDH hl5 (ha.ok a1 (by simp)))
  have p2 := qCP a2.row (qDH hl5 (ha.ok a2 (by simp)))
  have p3 := qCP a3.row (qDH hl5 (ha.ok a3 (by simp)))
  have q0 := qCP b0.row (qDH hl5 (hb.ok b0 (by simp)))
  have q1 := qCP b1.row (qDH hl5 (hb.ok b1 (by simp)))
  have q2 := qCP b2.row (qDH hl5 (hb.ok b2 (by simp)))
  have q3 := qCP b3.row (qDH hl5 (hb.ok b3 (by simp)))
  have htl : (tc.map Cl.cs).length ≤ 5 := by rw [List.length_map]; exact hl5
  clear ha hb hn hk hc
  obtain ⟨a0f, a0⟩ := a0
  obtain ⟨a1f, a1⟩ := a1
  obtain ⟨a2f, a2⟩ := a2
  obtain ⟨a3f, a3⟩ := a3
  obtain ⟨b0f, b0⟩ := b0
  obtain ⟨b1f, b1⟩ := b1
  obtain ⟨b2f, b2⟩ := b2
  obtain ⟨b3f, b3⟩ := b3
  dsimp only at *
  unfold Tb.cs
  dsimp only
  refine qAs Tryd.func66 rfl (by kernel_rfl) mixed (by kernel_rfl) (qle (by kernel_rfl)) Tryd.results66 ?_
  repeat (first | (with_reducible first | apply qAj | apply qAh | apply qAi | apply qAg | apply qAq) | ((with_reducible apply rp); first | ((with_reducible apply qAd); (conv => lhs; whnf)) | ((with_reducible apply qAc); exact tyOk rfl; exact rfl; exact rfl; decide; exact rfl) | ((with_reducible apply qAe); exact tyOk rfl; (iterate 4 exact rfl))) | ((with_reducible apply rp1); first | ((with_reducible apply qAn); exact rfl; exact rfl) | ((with_reducible apply qAk); exact tyOk rfl; exact rfl) | ((with_reducible apply qA6); exact tyOk rfl; exact rfl; exact tyOk rfl; exact rfl; exact rfl; (focus repeat' (first | exact trivial | refine And.intro rfl (And.intro rfl ?_))); decide; decide; exact rfl)) | ((with_reducible apply rp2); ((with_reducible apply qBx); exact tyOk rfl; exact rfl; exact tyOk rfl; (iterate 3 exact rfl); decide; (first | (dsimp only; simp only [List.length_map, List.length_append, List.length_cons, List.length_nil] at *; omega) | (simp only [List.length_map, List.length_append, List.length_cons, List.length_nil] at *; omega)); (first | (dsimp only; simp only [List.length_map, List.length_append, List.length_cons, List.length_nil] at *; omega) | (simp only [List.length_map, List.length_append, List.length_cons, List.length_nil] at *; omega)); exact rfl)) | ((with_reducible apply rpN); ((with_reducible apply qBk); exact tyOk rfl; exact rfl; exact rfl; (conv => lhs; whnf); exact rfl; exact rfl; exact qle rfl)))
  refine qBn (fun m s => ∃ i, i ≤ 2 ∧ m = 2 - i ∧ s = ⟨[(1, .px 1 0), (2, .px 2 0), (11, .d (iD i))], [(1, .var 30 [.d (bD true), .d (strD tn), .ow 9 (([] : List (List D)).length + (tc.map Cl.cs).length), .d (bD a0f), .d (qBz a0), .d (bD a1f), .d (qBz a1), .d (bD a2f), .d (qBz a2), .d (bD a3f), .d (qBz a3), .d (bD b0f), .d (qBz b0), .d (bD b1f), .d (qBz b1), .d (bD b2f), .d (qBz b2), .d (bD b3f), .d (qBz b3)]), (2, .var 30 (tb0.map .d)), (9, .row 52 3 ([] ++ tc.map Cl.cs))]⟩) _ _ ?_ ⟨0, by omega, rfl, rfl⟩ ?_
  · refine qAx [] (by repeat' (first | exact qAI | (refine qAD rfl (by exact SubA.refl _) ?_))) (by repeat' (first | exact trivial | exact rfl | refine And.intro ?_ ?_)) rfl (by repeat' (first | exact trivial | exact qAH _ | exact qA7 rfl | exact qAp rfl | refine And.intro ?_ ?_)) (by repeat' (first | exact trivial | exact qAH _ | exact qA7 rfl | exact qAp rfl | refine And.intro ?_ ?_))
  · rintro m s ⟨i, hi2, rfl, rfl⟩
    repeat (first | (with_reducible first | apply qAj | apply qAh | apply qAi | apply qAg) | ((with_reducible apply rp); ((with_reducible apply qAU); exact rfl; exact rfl)))
    refine qAo rfl (fun hd => ?_) (fun hd => ?_)
    · have hlt : i < 2 := by simp at hd; omega
      clear hd
      rcases (by omega : i = 0 ∨ i = 1) with rfl | rfl
      · repeat (first | (with_reducible first | apply qAj | apply qAh | apply qAi | apply qAg | apply qAq | apply qAm) | ((with_reducible apply rp); first | ((with_reducible apply qAd); (conv => lhs; whnf)) | ((with_reducible apply qAa); (conv => lhs; whnf))))
        refine qBn (fun m s => ∃ k, k ≤ 4 ∧ m = 4 - k ∧ s = ⟨[(1, .px 1 0), (2, .px 2 0), (3, .d (iD 0)), (11, .d (iD 0)), (14, .d (iD k))], [(1, .var 30 [.d (bD true), .d (strD tn), .ow 9 (([] : List (List D)).length + (tc.map Cl.cs).length), .d (bD a0f), .d (qBz a0), .d (bD a1f), .d (qBz a1), .d (bD a2f), .d (qBz a2), .d (bD a3f), .d (qBz a3), .d (bD b0f), .d (qBz b0), .d (bD b1f), .d (qBz b1), .d (bD b2f), .d (qBz b2), .d (bD b3f), .d (qBz b3)]), (2, .var 30 (tb0.map .d)), (9, .row 52 3 ([] ++ tc.map Cl.cs))]⟩) _ _ ?_ ⟨0, by omega, rfl, rfl⟩ ?_
        · refine qAx [] (by repeat' (first | exact qAI | (refine qAD rfl (by exact SubA.refl _) ?_))) (by repeat' (first | exact trivial | exact rfl | refine And.intro ?_ ?_)) rfl (by repeat' (first | exact trivial | exact qAH _ | exact qA7 rfl | exact qAp rfl | refine And.intro ?_ ?_)) (by repeat' (first | exact trivial | exact qAH _ | exact qA7 rfl | exact qAp rfl | refine And.intro ?_ ?_))
        · rintro m s ⟨k, hk4, rfl, rfl⟩
          repeat (first | (with_reducible first | apply qAj | apply qAh | apply qAi | apply qAg) | ((with_reducible apply rp); ((with_reducible apply qAU); exact rfl; exact rfl)))
          refine qAo rfl (fun hd => ?_) (fun hd => ?_)
          · have hlt4 : k < 4 := by simp at hd; omega
            clear hd
            rcases (by omega : k = 0 ∨ k = 1 ∨ k = 2 ∨ k = 3) with rfl | rfl | rfl | rfl
            · repeat (first | (with_reducible first | apply qAj | apply qAh | apply qAi | apply qAg | apply qAq | apply qAF | apply qAm) | ((with_reducible apply rp); first | ((with_reducible apply qAP); (iterate 3 exact rfl); exact (p0)) | ((with_reducible apply qAd); (conv => lhs; whnf)) | ((with_reducible apply qAa); (conv => lhs; whnf)) | ((with_reducible apply qAc); exact tyOk rfl; exact rfl; exact rfl; decide; exact rfl) | ((with_reducible apply qAe); exact tyOk rfl; (iterate 4 exact rfl)) | ((with_reducible apply qAL); exact tyOk rfl; (iterate 3 exact rfl); omega; decide; exact rfl) | ((with_reducible apply qAJ); exact rfl; exact rfl; omega; omega) | ((with_reducible apply qBf); exact rfl)) | ((with_reducible apply rpN); ((with_reducible apply qBk); exact tyOk rfl; exact rfl; exact rfl; (conv => lhs; whnf); exact rfl; exact rfl; exact qle rfl)))
              refine ⟨_, _, ?_, ?_, 1, by omega, rfl, rfl⟩
              · omega
              · refine qAx [] (by repeat' (first | exact qAI | (refine qAD rfl (by exact SubA.refl _) ?_))) (by repeat' (first | exact trivial | exact rfl | refine And.intro ?_ ?_)) rfl (by repeat' (first | exact trivial | exact qAH _ | exact qA7 rfl | exact qAp rfl | refine And.intro ?_ ?_)) (by repeat' (first | exact trivial | exact qAH _ | exact qA7 rfl | exact qAp rfl | refine And.intro ?_ ?_))
            · repeat (first | (with_reducible first | apply qAj | apply qAh | apply qAi | apply qAg | apply qAq | apply qAF | apply qAm) | ((with_reducible apply rp); first | ((with_reducible apply qAP); (iterate 3 exact rfl); exact (p1)) | ((with_reducible apply qAd); (conv => lhs; whnf)) | ((with_reducible apply qAa); (conv => lhs; whnf)) | ((with_reducible apply qAc); exact tyOk rfl; exact rfl; exact rfl; decide; exact rfl) | ((with_reducible apply qAe); exact tyOk rfl; (iterate 4 exact rfl)) | ((with_reducible apply qAL); exact tyOk rfl; (iterate 3 exact rfl); omega; decide; exact rfl) | ((with_reducible apply qAJ); exact rfl; exact rfl; omega; omega) | ((with_reducible apply qBf); exact rfl)) | ((with_reducible apply rpN); ((with_reducible apply qBk); exact tyOk rfl; exact rfl; exact rfl; (conv => lhs; whnf); exact rfl; exact rfl; exact qle rfl)))
              refine ⟨_, _, ?_, ?_, 2, by omega, rfl, rfl⟩
              · omega
              · refine qAx [] (by repeat' (first | exact qAI | (refine qAD rfl (by exact SubA.refl _) ?_))) (by repeat' (first | exact trivial | exact rfl | refine And.intro ?_ ?_)) rfl (by repeat' (first | exact trivial | exact qAH _ | exact qA7 rfl | exact qAp rfl | refine And.intro ?_ ?_)) (by repeat' (first | exact trivial | exact qAH _ | exact qA7 rfl | exact qAp rfl | refine And.intro ?_ ?_))
            · repeat (first | (with_reducible first | apply qAj | apply qAh | apply qAi | apply qAg | apply qAq | apply qAF | apply qAm) | ((with_reducible apply rp); first | ((with_reducible apply qAP); (iterate 3 exact rfl); exact (p2)) | ((with_reducible apply qAd); (conv => lhs; whnf)) | ((with_reducible apply qAa); (conv => lhs; whnf)) | ((with_reducible apply qAc); exact tyOk rfl; exact rfl; exact rfl; decide; exact rfl) | ((with_reducible apply qAe); exact tyOk rfl; (iterate 4 exact rfl)) | ((with_reducible apply qAL); exact tyOk rfl; (iterate 3 exact rfl); omega; decide; exact rfl) | ((with_reducible apply qAJ); exact rfl; exact rfl; omega; omega) | ((with_reducible apply qBf); exact rfl)) | ((with_reducible apply rpN); ((with_reducible apply qBk); exact tyOk rfl; exact rfl; exact rfl; (conv => lhs; whnf); exact rfl; exact rfl; exact qle rfl)))
              refine ⟨_, _, ?_, ?_, 3, by omega, rfl, rfl⟩
              · omega
              · refine qAx [] (by repeat' (first | exact qAI | (refine qAD rfl (by exact SubA.refl _) ?_))) (by repeat' (first | exact trivial | exact rfl | refine And.intro ?_ ?_)) rfl (by repeat' (first | exact trivial | exact qAH _ | exact qA7 rfl | exact qAp rfl | refine And.intro ?_ ?_)) (by repeat' (first | exact trivial | exact qAH _ | exact qA7 rfl | exact qAp rfl | refine And.intro ?_ ?_))
            · repeat (first | (with_reducible first | apply qAj | apply qAh | apply qAi | apply qAg | apply qAq | apply qAF | apply qAm) | ((with_reducible apply rp); first | ((with_reducible apply qAP); (iterate 3 exact rfl); exact (p3)) | ((with_reducible apply qAd); (conv => lhs; whnf)) | ((with_reducible apply qAa); (conv => lhs; whnf)) | ((with_reducible apply qAc); exact tyOk rfl; exact rfl; exact rfl; decide; exact rfl) | ((with_reducible apply qAe); exact tyOk rfl; (iterate 4 exact rfl)) | ((with_reducible apply qAL); exact tyOk rfl; (iterate 3 exact rfl); omega; decide; exact rfl) | ((with_reducible apply qAJ); exact rfl; exact rfl; omega; omega) | ((with_reducible apply qBf); exact rfl)) | ((with_reducible apply rpN); ((with_reducible apply qBk); exact tyOk rfl; exact rfl; exact rfl; (conv => lhs; whnf); exact rfl; exact rfl; exact qle rfl)))
              refine ⟨_, _, ?_, ?_, 4, by omega, rfl, rfl⟩
              · omega
              · refine qAx [] (by repeat' (first | exact qAI | (refine qAD rfl (by exact SubA.refl _) ?_))) (by repeat' (first | exact trivial | exact rfl | refine And.intro ?_ ?_)) rfl (by repeat' (first | exact trivial | exact qAH _ | exact qA7 rfl | exact qAp rfl | refine And.intro ?_ ?_)) (by repeat' (first | exact trivial | exact qAH _ | exact qA7 rfl | exact qAp rfl | refine And.intro ?_ ?_))
          · have hke : k = 4 := by simp at hd; omega
            clear hd
            subst hke
            repeat (first | (with_reducible first | apply qAh | apply qAi | apply qAg | apply qBd | apply qBa | apply qBc | apply qAF) | ((with_reducible apply rp); first | ((with_reducible apply qAd); (conv => lhs; whnf)) | ((with_reducible apply qAJ); exact rfl; exact rfl; omega; omega)))
            refine ⟨_, _, ?_, ?_, 1, by omega, rfl, rfl⟩
            · omega
            · refine qAx [] (by repeat' (first | exact qAI | (refine qAD rfl (by exact SubA.refl _) ?_))) (by repeat' (first | exact trivial | exact rfl | refine And.intro ?_ ?_)) rfl (by repeat' (first | exact trivial | exact qAH _ | exact qA7 rfl | exact qAp rfl | refine And.intro ?_ ?_)) (by repeat' (first | exact trivial | exact qAH _ | exact qA7 rfl | exact qAp rfl | refine And.intro ?_ ?_))
      · repeat (first | (with_reducible first | apply qAj | apply qAh | apply qAi | apply qAg | apply qAq | apply qAm) | ((with_reducible apply rp); first | ((with_reducible apply qAd); (conv => lhs; whnf)) | ((with_reducible apply qAa); (conv => lhs; whnf))))
        refine qBn (fun m s => ∃ k, k ≤ 4 ∧ m = 4 - k ∧ s = ⟨[(1, .px 1 0), (2, .px 2 0), (3, .d (iD 1)), (11, .d (iD 1)), (14, .d (iD k))], [(1, .var 30 [.d (bD true), .d (strD tn), .ow 9 (([] : List (List D)).length + (tc.map Cl.cs).length), .d (bD a0f), .d (qBz a0), .d (bD a1f), .d (qBz a1), .d (bD a2f), .d (qBz a2), .d (bD a3f), .d (qBz a3), .d (bD b0f), .d (qBz b0), .d (bD b1f), .d (qBz b1), .d (bD b2f), .d (qBz b2), .d (bD b3f), .d (qBz b3)]), (2, .var 30 (tb0.map .d)), (9, .row 52 3 ([] ++ tc.map Cl.cs))]⟩) _ _ ?_ ⟨0, by omega, rfl, rfl⟩ ?_
        · refine qAx [] (by repeat' (first | exact qAI | (refine qAD rfl (by exact SubA.refl _) ?_))) (by repeat' (first | exact trivial | exact rfl | refine And.intro ?_ ?_)) rfl (by repeat' (first | exact trivial | exact qAH _ | exact qA7 rfl | exact qAp rfl | refine And.intro ?_ ?_)) (by repeat' (first | exact trivial | exact qAH _ | exact qA7 rfl | exact qAp rfl | refine And.intro ?_ ?_))
        · rintro m s ⟨k, hk4, rfl, rfl⟩
          repeat (first | (with_reducible first | apply qAj | apply qAh | apply qAi | apply qAg) | ((with_reducible apply rp); ((with_reducible apply qAU); exact rfl; exact rfl)))
          refine qAo rfl (fun hd => ?_) (fun hd => ?_)
          · have hlt4 : k < 4 := by simp at hd; omega
            clear hd
            rcases (by omega : k = 0 ∨ k = 1 ∨ k = 2 ∨ k = 3) with rfl | rfl | rfl | rfl
            · repeat (first | (with_reducible first | apply qAj | apply qAh | apply qAi | apply qAg | apply qAq | apply qAF | apply qAm) | ((with_reducible apply rp); first | ((with_reducible apply qAP); (iterate 3 exact rfl); exact (q0)) | ((with_reducible apply qAd); (conv => lhs; whnf)) | ((with_reducible apply qAa); (conv => lhs; whnf)) | ((with_reducible apply qAc); exact tyOk rfl; exact rfl; exact rfl; decide; exact rfl) | ((with_reducible apply qAe); exact tyOk rfl; (iterate 4 exact rfl)) | ((with_reducible apply qAL); exact tyOk rfl; (iterate 3 exact rfl); omega; decide; exact rfl) | ((with_reducible apply qAJ); exact rfl; exact rfl; omega; omega) | ((with_reducible apply qBf); exact rfl)) | ((with_reducible apply rpN); ((with_reducible apply qBk); exact tyOk rfl; exact rfl; exact rfl; (conv => lhs; whnf); exact rfl; exact rfl; exact qle rfl)))
              refine ⟨_, _, ?_, ?_, 1, by omega, rfl, rfl⟩
              · omega
              · refine qAx [] (by repeat' (first | exact qAI | (refine qAD rfl (by exact SubA.refl _) ?_))) (by repeat' (first | exact trivial | exact rfl | refine And.intro ?_ ?_)) rfl (by repeat' (first | exact trivial | exact qAH _ | exact qA7 rfl | exact qAp rfl | refine And.intro ?_ ?_)) (by repeat' (first | exact trivial | exact qAH _ | exact qA7 rfl | exact qAp rfl | refine And.intro ?_ ?_))
            · repeat (first | (with_reducible first | apply qAj | apply qAh | apply qAi | apply qAg | apply qAq | apply qAF | apply qAm) | ((with_reducible apply rp); first | ((with_reducible apply qAP); (iterate 3 exact rfl); exact (q1)) | ((with_reducible apply qAd); (conv => lhs; whnf)) | ((with_reducible apply qAa); (conv => lhs; whnf)) | ((with_reducible apply qAc); exact tyOk rfl; exact rfl; exact rfl; decide; exact rfl) | ((with_reducible apply qAe); exact tyOk rfl; (iterate 4 exact rfl)) | ((with_reducible apply qAL); exact tyOk rfl; (iterate 3 exact rfl); omega; decide; exact rfl) | ((with_reducible apply qAJ); exact rfl; exact rfl; omega; omega) | ((with_reducible apply qBf); exact rfl)) | ((with_reducible apply rpN); ((with_reducible apply qBk); exact tyOk rfl; exact rfl; exact rfl; (conv => lhs; whnf); exact rfl; exact rfl; exact qle rfl)))
              refine ⟨_, _, ?_, ?_, 2, by omega, rfl, rfl⟩
              · omega
              · refine qAx [] (by repeat' (first | exact qAI | (refine qAD rfl (by exact SubA.refl _) ?_))) (by repeat' (first | exact trivial | exact rfl | refine And.intro ?_ ?_)) rfl (by repeat' (first | exact trivial | exact qAH _ | exact qA7 rfl | exact qAp rfl | refine And.intro ?_ ?_)) (by repeat' (first | exact trivial | exact qAH _ | exact qA7 rfl | exact qAp rfl | refine And.intro ?_ ?_))
            · repeat (first | (with_reducible first | apply qAj | apply qAh | apply qAi | apply qAg | apply qAq | apply qAF | apply qAm) | ((with_reducible apply rp); first | ((with_reducible apply qAP); (iterate 3 exact rfl); exact (q2)) | ((with_reducible apply qAd); (conv => lhs; whnf)) | ((with_reducible apply qAa); (conv => lhs; whnf)) | ((with_reducible apply qAc); exact tyOk rfl; exact rfl; exact rfl; decide; exact rfl) | ((with_reducible apply qAe); exact tyOk rfl; (iterate 4 exact rfl)) | ((with_reducible apply qAL); exact tyOk rfl; (iterate 3 exact rfl); omega; decide; exact rfl) | ((with_reducible apply qAJ); exact rfl; exact rfl; omega; omega) | ((with_reducible apply qBf); exact rfl)) | ((with_reducible apply rpN); ((with_reducible apply qBk); exact tyOk rfl; exact rfl; exact rfl; (conv => lhs; whnf); exact rfl; exact rfl; exact qle rfl)))
              refine ⟨_, _, ?_, ?_, 3, by omega, rfl, rfl⟩
              · omega
              · refine qAx [] (by repeat' (first | exact qAI | (refine qAD rfl (by exact SubA.refl _) ?_))) (by repeat' (first | exact trivial | exact rfl | refine And.intro ?_ ?_)) rfl (by repeat' (first | exact trivial | exact qAH _ | exact qA7 rfl | exact qAp rfl | refine And.intro ?_ ?_)) (by repeat' (first | exact trivial | exact qAH _ | exact qA7 rfl | exact qAp rfl | refine And.intro ?_ ?_))
            · repeat (first | (with_reducible first | apply qAj | apply qAh | apply qAi | apply qAg | apply qAq | apply qAF | apply qAm) | ((with_reducible apply rp); first | ((with_reducible apply qAP); (iterate 3 exact rfl); exact (q3)) | ((with_reducible apply qAd); (conv => lhs; whnf)) | ((with_reducible apply qAa); (conv => lhs; whnf)) | ((with_reducible apply qAc); exact tyOk rfl; exact rfl; exact rfl; decide; exact rfl) | ((with_reducible apply qAe); exact tyOk rfl; (iterate 4 exact rfl)) | ((with_reducible apply qAL); exact tyOk rfl; (iterate 3 exact rfl); omega; decide; exact rfl) | ((with_reducible apply qAJ); exact rfl; exact rfl; omega; omega) | ((with_reducible apply qBf); exact rfl)) | ((with_reducible apply rpN); ((with_reducible apply qBk); exact tyOk rfl; exact rfl; exact rfl; (conv => lhs; whnf); exact rfl; exact rfl; exact qle rfl)))
              refine ⟨_, _, ?_, ?_, 4, by omega, rfl, rfl⟩
              · omega
              · refine qAx [] (by repeat' (first | exact qAI | (refine qAD rfl (by exact SubA.refl _) ?_))) (by repeat' (first | exact trivial | exact rfl | refine And.intro ?_ ?_)) rfl (by repeat' (first | exact trivial | exact qAH _ | exact qA7 rfl | exact qAp rfl | refine And.intro ?_ ?_)) (by repeat' (first | exact trivial | exact qAH _ | exact qA7 rfl | exact qAp rfl | refine And.intro ?_ ?_))
          · have hke : k = 4 := by simp at hd; omega
            clear hd
            subst hke
            repeat (first | (with_reducible first | apply qAh | apply qAi | apply qAg | apply qBd | apply qBa | apply qBc | apply qAF) | ((with_reducible apply rp); first | ((with_reducible apply qAd); (conv => lhs; whnf)) | ((with_reducible apply qAJ); exact rfl; exact rfl; omega; omega)))
            refine ⟨_, _, ?_, ?_, 2, by omega, rfl, rfl⟩
            · omega
            · refine qAx [] (by repeat' (first | exact qAI | (refine qAD rfl (by exact SubA.refl _) ?_))) (by repeat' (first | exact trivial | exact rfl | refine And.intro ?_ ?_)) rfl (by repeat' (first | exact trivial | exact qAH _ | exact qA7 rfl | exact qAp rfl | refine And.intro ?_ ?_)) (by repeat' (first | exact trivial | exact qAH _ | exact qA7 rfl | exact qAp rfl | refine And.intro ?_ ?_))
    · have hke : i = 2 := by simp at hd; omega
      clear hd
      subst hke
      repeat (first | (with_reducible first | apply qAj | apply qAh | apply qAi | apply qAg | apply qBd | apply qBa | apply qBc | apply qAu | apply qAy) | ((with_reducible apply rp); (exact qFe (tyOk rfl) rfl rfl rfl rfl)) | ((with_reducible apply rpN); (exact qEY (tyOk rfl) rfl rfl rfl rfl rfl)))
      (with_reducible apply qAz); (focus (repeat' (first | (with_reducible apply qAw) | (with_reducible apply qAr) | ((with_reducible apply rv_row); exact rfl; exact rfl; exact tyOk rfl; exact rfl; exact qle rfl)))); exact rfl; refine SubD.of_eq ?_
      rfl
end Go.Proofs.YtpaccaojgbfjdaaDoor

