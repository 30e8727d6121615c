/-
  chirographkeep.tokensOf: tokens that may be, of raw things. No condition.
-/
import Derived.Test.YtlpnnnmdkglkcaaDoorZTokOf
set_option linter.unusedSimpArgs false
set_option linter.unusedVariables false
namespace Go.Proofs.YtlpnnnmdkglkcaaDoor
open Go.RowKit

set_option maxHeartbeats 1000000 in
theorem tokensOf_ex2 (l : List Raw) (m : Nat) (hm : m ≤ 1000) : ∃ T : List Tk, (∀ t ∈ T, TkOk t ∧ t.n < 9223372036854775808 ∧ (t.k = 4 → t.t.size ≤ 20)) ∧ T.length ≤ m ∧ (PC Tryd.prog 13 [rawsD l, iD m] (toksD T)) := by
  let F : Raw → Tk := fun r => Classical.choose (qEN r)
  have hF : ∀ r, TkOk (F r) ∧ (F r).n < 9223372036854775808 ∧ ((F r).k = 4 → (F r).t.size ≤ 20) ∧ PC Tryd.prog 19 [.ag r.cs] (.ag (F r).cs) := fun r => Classical.choose_spec (qEN r)
  refine ⟨(l.take m).map F, fun t ht => ?_, by rw [List.length_map, List.length_take]; omega, ?_⟩
  · obtain ⟨r, _, rfl⟩ := List.mem_map.1 ht
    exact ⟨(hF r).1, (hF r).2.1, (hF r).2.2.1⟩
  · have s1 := some_pc l m
    have hlm : (l.take m).length ≤ m := by rw [List.length_take]; omega
    generalize l.take m = q at *
    have hF2 := fun r => (hF r).2.2.2
    clear hF
    generalize F = G at *
    have hcs : ∀ k r, q[k]? = some r → ((q.take (k + 1)).map G).map Tk.cs = ((q.take k).map G).map Tk.cs ++ [(G r).cs] := fun k r h => by
      rw [List.take_add_one, h, List.map_append, List.map_append]
      rfl
    have hll : ∀ k, k ≤ q.length → (((q.take k).map G).map Tk.cs).length = k := fun k h => by rw [List.length_map, List.length_map, List.length_take]; omega
    show PC _ _ _ (.sl 4 ((q.map G).map Tk.cs))
    generalize hE : (fun k => ((q.take k).map G).map Tk.cs) = E
    have hEk : ∀ k, ((q.take k).map G).map Tk.cs = E k := fun k => by rw [← hE]
    have hEn : (q.map G).map Tk.cs = E q.length := by rw [← hEk, List.take_length]
    have hE0 : E 0 = [] := by rw [← hEk]; rfl
    rw [hEn]
    simp only [hEk] at hcs hll
    clear hE hEk hEn
    refine qAM Tryd.func13 rfl (by kernel_rfl) mixed (by kernel_rfl) (qle (by kernel_rfl)) Tryd.results13 ?_
    repeat (first | ((first | (with_reducible apply rpGT) | (with_reducible apply drGT) | (with_reducible apply qAP) | (with_reducible apply qAO)); eq_refl; (first | exact qAo rfl | exact qAt rfl | exact qAw rfl | exact qAy rfl); (first | eq_refl | assumption | decide); (focus repeat' (first | exact trivial | exact id | apply And.intro | (intro h; (first | exact h | (simp only [Bool.and_eq_true] at h; (first | exact h.1 | exact h.1.1 | exact h.1.1.1 | exact h.2)) | (rw [h]; rfl) | (rw [zh, h]; rfl) | simp_all)))); ((first | ((with_reducible apply qCD); (iterate 3 eq_refl); exact (s1)) | ((with_reducible first | apply qAc | apply qAa); (conv => lhs; whnf)) | ((with_reducible apply qBY); exact tyOk rfl; eq_refl; eq_refl)); (first | exact qAh _ | exact qAp _ _ | exact qAr _ _ _ | exact qAq _ _ _ _))) | (with_reducible first | apply qAl | apply qAm | apply qAn | apply qAk | apply qAs) | ((with_reducible apply rp); first | ((with_reducible apply qCD); (iterate 3 eq_refl); exact (s1)) | ((with_reducible apply qAc); (conv => lhs; whnf)) | ((with_reducible apply qAa); (conv => lhs; whnf)) | ((with_reducible apply qBY); exact tyOk rfl; eq_refl; eq_refl)))
    refine qB5 (fun m s => ∃ k, k ≤ q.length ∧ m = q.length - k ∧ ((k = 0 ∧ s = ⟨[(5, .d .nl), (10, .d (rawsD q)), (11, .d (iD q.length)), (12, .d (iD k))], []⟩) ∨
      (0 < k ∧ s = ⟨[(5, .ow 5 (E k).length), (10, .d (rawsD q)), (11, .d (iD q.length)), (12, .d (iD k))], [(5, .row 32 4 (E k))]⟩))) _ _ ?_ ⟨0, by omega, rfl, .inl ⟨rfl, rfl⟩⟩ ?_
    · refine qAT [] (by repeat' (first | exact qA0 | (refine qAH rfl (by exact SubA.refl _) ?_))) (kpX rfl) rfl (insS rfl) (insX rfl)
    · rintro m s ⟨k, hk, rfl, ⟨hk0, rfl⟩ | ⟨hk0, rfl⟩⟩
      · repeat (first | ((first | (with_reducible apply rpGT) | (with_reducible apply drGT) | (with_reducible apply qAP) | (with_reducible apply qAO)); eq_refl; (first | exact qAo rfl | exact qAt rfl | exact qAw rfl | exact qAy rfl); (first | eq_refl | assumption | decide); (focus repeat' (first | exact trivial | exact id | apply And.intro | (intro h; (first | exact h | (simp only [Bool.and_eq_true] at h; (first | exact h.1 | exact h.1.1 | exact h.1.1.1 | exact h.2)) | (rw [h]; rfl) | (rw [zh, h]; rfl) | simp_all)))); ((first | ((with_reducible apply qBm); eq_refl; eq_refl)); (first | exact qAh _ | exact qAp _ _ | exact qAr _ _ _ | exact qAq _ _ _ _))) | (with_reducible first | apply qAl | apply qAm | apply qAn | apply qAk) | ((with_reducible apply rp); ((with_reducible apply qBm); eq_refl; eq_refl)))
        refine qA7 rfl (fun hd => ?_) (fun hd => ?_)
        · have hlt : k < q.length := by simp at hd; omega
          clear hd
          obtain ⟨r, hr⟩ : ∃ r, q[k]? = some r := ⟨_, List.getElem?_eq_getElem hlt⟩
          have hg : (q.map Raw.cs)[k]? = some r.cs := by rw [List.getElem?_map, hr]; rfl
          have t1 := hF2 r
          have hcr := hcs k r hr
          subst hk0
          rw [hE0] at hcr
          generalize G r = g at *
          obtain ⟨tk, tt, tn, tb⟩ := g
          have t1 : PC Tryd.prog 19 [.ag [iD r.kind, iD r.a, iD r.b, strD r.text]] (.ag [iD tk, strD tt, iD tn, qD tb]) := t1
          have hg : (q.map Raw.cs)[0]? = some [iD r.kind, iD r.a, iD r.b, strD r.text] := hg
          have hcr : E (0 + 1) = [] ++ [[iD tk, strD tt, iD tn, qD tb]] := hcr
          repeat (first | ((first | (with_reducible apply rpGT) | (with_reducible apply drGT) | (with_reducible apply qAP) | (with_reducible apply qAO)); eq_refl; (first | exact qAo rfl | exact qAt rfl | exact qAw rfl | exact qAy rfl); (first | eq_refl | assumption | decide); (focus repeat' (first | exact trivial | exact id | apply And.intro | (intro h; (first | exact h | (simp only [Bool.and_eq_true] at h; (first | exact h.1 | exact h.1.1 | exact h.1.1.1 | exact h.2)) | (rw [h]; rfl) | (rw [zh, h]; rfl) | simp_all)))); ((first | ((with_reducible apply qAd); eq_refl; eq_refl; exact (t1); eq_refl) | ((with_reducible first | apply qAc | apply qAa); (conv => lhs; whnf)) | ((with_reducible first | apply qAU | apply qAu | apply qAf) <;> first | ((with_reducible apply tyOk); eq_refl) | eq_refl | exact qle rfl) | ((with_reducible apply qA3); exact tyOk rfl; eq_refl; eq_refl; assumption; eq_refl) | ((with_reducible apply qBv); exact tyOk rfl; eq_refl; exact tyOk rfl; (iterate 4 eq_refl); (first | (dsimp only; simp only [List.length_map, List.length_append, List.length_cons, List.length_nil] at *; omega) | (simp only [List.length_map, List.length_append, List.length_cons, List.length_nil] at *; omega))) | ((with_reducible apply qA1); eq_refl; eq_refl; omega; omega) | ((with_reducible apply qAV); exact tyOk rfl; eq_refl; exact tyOk rfl; eq_refl; eq_refl; (focus repeat' (first | exact trivial | refine And.intro rfl (And.intro rfl ?_))); decide; decide; eq_refl) | ((with_reducible apply qDh); exact tyOk rfl; eq_refl; exact tyOk rfl; eq_refl; eq_refl; decide; (first | (dsimp only; simp only [List.length_map, List.length_append, List.length_cons, List.length_nil] at *; omega) | (simp only [List.length_map, List.length_append, List.length_cons, List.length_nil] at *; omega)); (first | (dsimp only; simp only [List.length_map, List.length_append, List.length_cons, List.length_nil] at *; omega) | (simp only [List.length_map, List.length_append, List.length_cons, List.length_nil] at *; omega)); eq_refl)); (first | exact qAh _ | exact qAp _ _ | exact qAr _ _ _ | exact qAq _ _ _ _))) | (with_reducible first | apply qAl | apply qAm | apply qAn | apply qAk | apply qAs | apply qA2 | apply qAC) | ((with_reducible apply rp); first | ((with_reducible apply qAd); eq_refl; eq_refl; exact (t1); eq_refl) | ((with_reducible apply qAc); (conv => lhs; whnf)) | ((with_reducible apply qAa); (conv => lhs; whnf)) | ((with_reducible apply qAU); exact tyOk rfl; (iterate 3 eq_refl); exact qle rfl; eq_refl) | ((with_reducible apply qA3); exact tyOk rfl; eq_refl; eq_refl; assumption; eq_refl) | ((with_reducible apply qBv); exact tyOk rfl; eq_refl; exact tyOk rfl; (iterate 4 eq_refl); (first | (dsimp only; simp only [List.length_map, List.length_append, List.length_cons, List.length_nil] at *; omega) | (simp only [List.length_map, List.length_append, List.length_cons, List.length_nil] at *; omega))) | ((with_reducible apply qA1); eq_refl; eq_refl; omega; omega)) | ((with_reducible apply rp1); first | ((with_reducible apply qAu); exact tyOk rfl; eq_refl) | ((with_reducible apply qAV); exact tyOk rfl; eq_refl; exact tyOk rfl; eq_refl; eq_refl; (focus repeat' (first | exact trivial | refine And.intro rfl (And.intro rfl ?_))); decide; decide; eq_refl) | ((with_reducible apply qDh); exact tyOk rfl; eq_refl; exact tyOk rfl; eq_refl; eq_refl; decide; (first | (dsimp only; simp only [List.length_map, List.length_append, List.length_cons, List.length_nil] at *; omega) | (simp only [List.length_map, List.length_append, List.length_cons, List.length_nil] at *; omega)); (first | (dsimp only; simp only [List.length_map, List.length_append, List.length_cons, List.length_nil] at *; omega) | (simp only [List.length_map, List.length_append, List.length_cons, List.length_nil] at *; omega)); eq_refl)) | ((with_reducible apply rpN); ((with_reducible apply qAf); exact tyOk rfl; (iterate 5 eq_refl))))
          refine ⟨_, _, ?_, ?_, 0 + 1, by omega, rfl, .inr ⟨by omega, rfl⟩⟩
          · omega
          · rw [hcr]
            refine qAT [(5, 20)] (by repeat' (first | exact qA0 | (refine qAH rfl (by exact SubA.refl _) ?_))) (kpX rfl) rfl (insS rfl) (insX rfl)
        · have hke : q.length = 0 := by simp at hd; omega
          clear hd
          have hq : E q.length = [] := by rw [hke]; exact hE0
          rw [hq]
          repeat (first | ((first | (with_reducible apply rpGT) | (with_reducible apply drGT) | (with_reducible apply qAP) | (with_reducible apply qAO)); eq_refl; (first | exact qAo rfl | exact qAt rfl | exact qAw rfl | exact qAy rfl); (first | eq_refl | assumption | decide); (focus repeat' (first | exact trivial | exact id | apply And.intro | (intro h; (first | exact h | (simp only [Bool.and_eq_true] at h; (first | exact h.1 | exact h.1.1 | exact h.1.1.1 | exact h.2)) | (rw [h]; rfl) | (rw [zh, h]; rfl) | simp_all)))); ((first | ((with_reducible first | apply qAc | apply qAa); (conv => lhs; whnf))); (first | exact qAh _ | exact qAp _ _ | exact qAr _ _ _ | exact qAq _ _ _ _))) | (with_reducible first | apply qAl | apply qAm | apply qAn | apply qAk | apply qBJ | apply qBL | apply qBK | apply qAF | apply qAX) | ((with_reducible apply rp); first | ((with_reducible apply qAc); (conv => lhs; whnf)) | ((with_reducible apply qAa); (conv => lhs; whnf))))
          (with_reducible apply qAY); (focus (repeat' (first | (with_reducible apply qAE) | (with_reducible apply qAx) | ((with_reducible apply qAI); eq_refl)))); exact rfl
          exact SubD.nil 4
      · repeat (first | ((first | (with_reducible apply rpGT) | (with_reducible apply drGT) | (with_reducible apply qAP) | (with_reducible apply qAO)); eq_refl; (first | exact qAo rfl | exact qAt rfl | exact qAw rfl | exact qAy rfl); (first | eq_refl | assumption | decide); (focus repeat' (first | exact trivial | exact id | apply And.intro | (intro h; (first | exact h | (simp only [Bool.and_eq_true] at h; (first | exact h.1 | exact h.1.1 | exact h.1.1.1 | exact h.2)) | (rw [h]; rfl) | (rw [zh, h]; rfl) | simp_all)))); ((first | ((with_reducible apply qBm); eq_refl; eq_refl)); (first | exact qAh _ | exact qAp _ _ | exact qAr _ _ _ | exact qAq _ _ _ _))) | (with_reducible first | apply qAl | apply qAm | apply qAn | apply qAk) | ((with_reducible apply rp); ((with_reducible apply qBm); eq_refl; eq_refl)))
        refine qA7 rfl (fun hd => ?_) (fun hd => ?_)
        · have hlt : k < q.length := by simp at hd; omega
          clear hd
          obtain ⟨r, hr⟩ : ∃ r, q[k]? = some r := ⟨_, List.getElem?_eq_getElem hlt⟩
          have hg : (q.map Raw.cs)[k]? = some r.cs := by rw [List.getElem?_map, hr]; rfl
          have t1 := hF2 r
          have hcr := hcs k r hr
          have hl1 := hll k hk
          generalize G r = g at *
          obtain ⟨tk, tt, tn, tb⟩ := g
          have t1 : PC Tryd.prog 19 [.ag [iD r.kind, iD r.a, iD r.b, strD r.text]] (.ag [iD tk, strD tt, iD tn, qD tb]) := t1
          have hg : (q.map Raw.cs)[k]? = some [iD r.kind, iD r.a, iD r.b, strD r.text] := hg
          have hcr : E (k + 1) = E k ++ [[iD tk, strD tt, iD tn, qD tb]] := hcr
          generalize E k = es at *
          repeat (first | ((first | (with_reducible apply rpGT) | (with_reducible apply drGT) | (with_reducible apply qAP) | (with_reducible apply qAO)); eq_refl; (first | exact qAo rfl | exact qAt rfl | exact qAw rfl | exact qAy rfl); (first | eq_refl | assumption | decide); (focus repeat' (first | exact trivial | exact id | apply And.intro | (intro h; (first | exact h | (simp only [Bool.and_eq_true] at h; (first | exact h.1 | exact h.1.1 | exact h.1.1.1 | exact h.2)) | (rw [h]; rfl) | (rw [zh, h]; rfl) | simp_all)))); ((first | ((with_reducible apply qAd); eq_refl; eq_refl; exact (t1); eq_refl) | ((with_reducible first | apply qAc | apply qAa); (conv => lhs; whnf)) | ((with_reducible first | apply qAU | apply qAu | apply qAf) <;> first | ((with_reducible apply tyOk); eq_refl) | eq_refl | exact qle rfl) | ((with_reducible apply qA3); exact tyOk rfl; eq_refl; eq_refl; assumption; eq_refl) | ((with_reducible apply qBv); exact tyOk rfl; eq_refl; exact tyOk rfl; (iterate 4 eq_refl); (first | (dsimp only; simp only [List.length_map, List.length_append, List.length_cons, List.length_nil] at *; omega) | (simp only [List.length_map, List.length_append, List.length_cons, List.length_nil] at *; omega))) | ((with_reducible apply qA1); eq_refl; eq_refl; omega; omega) | ((with_reducible apply qAV); exact tyOk rfl; eq_refl; exact tyOk rfl; eq_refl; eq_refl; (focus repeat' (first | exact trivial | refine And.intro rfl (And.intro rfl ?_))); decide; decide; eq_refl) | ((with_reducible apply qBx); exact tyOk rfl; eq_refl; exact tyOk rfl; (iterate 3 eq_refl); decide; (first | (dsimp only; simp only [List.length_map, List.length_append, List.length_cons, List.length_nil] at *; omega) | (simp only [List.length_map, List.length_append, List.length_cons, List.length_nil] at *; omega)); (first | (dsimp only; simp only [List.length_map, List.length_append, List.length_cons, List.length_nil] at *; omega) | (simp only [List.length_map, List.length_append, List.length_cons, List.length_nil] at *; omega)); eq_refl)); (first | exact qAh _ | exact qAp _ _ | exact qAr _ _ _ | exact qAq _ _ _ _))) | (with_reducible first | apply qAl | apply qAm | apply qAn | apply qAk | apply qAs | apply qA2 | apply qAC) | ((with_reducible apply rp); first | ((with_reducible apply qAd); eq_refl; eq_refl; exact (t1); eq_refl) | ((with_reducible apply qAc); (conv => lhs; whnf)) | ((with_reducible apply qAa); (conv => lhs; whnf)) | ((with_reducible apply qAU); exact tyOk rfl; (iterate 3 eq_refl); exact qle rfl; eq_refl) | ((with_reducible apply qA3); exact tyOk rfl; eq_refl; eq_refl; assumption; eq_refl) | ((with_reducible apply qBv); exact tyOk rfl; eq_refl; exact tyOk rfl; (iterate 4 eq_refl); (first | (dsimp only; simp only [List.length_map, List.length_append, List.length_cons, List.length_nil] at *; omega) | (simp only [List.length_map, List.length_append, List.length_cons, List.length_nil] at *; omega))) | ((with_reducible apply qA1); eq_refl; eq_refl; omega; omega)) | ((with_reducible apply rp1); first | ((with_reducible apply qAu); exact tyOk rfl; eq_refl) | ((with_reducible apply qAV); exact tyOk rfl; eq_refl; exact tyOk rfl; eq_refl; eq_refl; (focus repeat' (first | exact trivial | refine And.intro rfl (And.intro rfl ?_))); decide; decide; eq_refl)) | ((with_reducible apply rp2); ((with_reducible apply qBx); exact tyOk rfl; eq_refl; exact tyOk rfl; (iterate 3 eq_refl); decide; (first | (dsimp only; simp only [List.length_map, List.length_append, List.length_cons, List.length_nil] at *; omega) | (simp only [List.length_map, List.length_append, List.length_cons, List.length_nil] at *; omega)); (first | (dsimp only; simp only [List.length_map, List.length_append, List.length_cons, List.length_nil] at *; omega) | (simp only [List.length_map, List.length_append, List.length_cons, List.length_nil] at *; omega)); eq_refl)) | ((with_reducible apply rpN); ((with_reducible apply qAf); exact tyOk rfl; (iterate 5 eq_refl))))
          refine ⟨_, _, ?_, ?_, k + 1, by omega, rfl, .inr ⟨by omega, rfl⟩⟩
          · omega
          · rw [hcr, List.length_append]
            refine qAT [(5, 20)] (by repeat' (first | exact qA0 | (refine qAH rfl (by exact SubA.refl _) ?_))) (kpX rfl) rfl (insS rfl) (insX rfl)
        · have hke : k = q.length := by simp at hd; omega
          clear hd
          subst hke
          repeat (first | ((first | (with_reducible apply rpGT) | (with_reducible apply drGT) | (with_reducible apply qAP) | (with_reducible apply qAO)); eq_refl; (first | exact qAo rfl | exact qAt rfl | exact qAw rfl | exact qAy rfl); (first | eq_refl | assumption | decide); (focus repeat' (first | exact trivial | exact id | apply And.intro | (intro h; (first | exact h | (simp only [Bool.and_eq_true] at h; (first | exact h.1 | exact h.1.1 | exact h.1.1.1 | exact h.2)) | (rw [h]; rfl) | (rw [zh, h]; rfl) | simp_all)))); ((first | ((with_reducible first | apply qAc | apply qAa); (conv => lhs; whnf))); (first | exact qAh _ | exact qAp _ _ | exact qAr _ _ _ | exact qAq _ _ _ _))) | (with_reducible first | apply qAl | apply qAm | apply qAn | apply qAk | apply qBJ | apply qBL | apply qBK | apply qAF | apply qAX) | ((with_reducible apply rp); first | ((with_reducible apply qAc); (conv => lhs; whnf)) | ((with_reducible apply qAa); (conv => lhs; whnf))))
          (with_reducible apply qAY); (focus (repeat' (first | (with_reducible apply qAE) | (with_reducible apply qAx) | ((with_reducible apply qAI); eq_refl)))); eq_refl; refine SubD.of_eq ?_
          rfl
end Go.Proofs.YtlpnnnmdkglkcaaDoor

