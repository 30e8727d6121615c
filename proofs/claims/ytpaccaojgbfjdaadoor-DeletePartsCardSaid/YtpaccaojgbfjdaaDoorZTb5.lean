/-
  chirograph/table: Insert as a contract.
-/
import Derived.Test.YtpaccaojgbfjdaaDoorZTb4
set_option linter.unusedSimpArgs false
set_option linter.unusedVariables false
namespace Go.Proofs.YtpaccaojgbfjdaaDoor
open Go.RowKit

theorem drF_zero (a b : List Ce) : drF a b 0 = a := rfl
theorem drF_one (a b : List Ce) : drF a b 1 = b := rfl
set_option maxHeartbeats 8000000 in
theorem insert0_pc (t : Tb) (h : TbOk t) (r : List Vl) (hr : FitR r t.cols) : PC Tryd.prog 12 [.ag t.cs, iD 0, qBz r] (insD t 0 r) := by
  have b1 : PC Tryd.prog 39 [.ag t.cs, iD 0] (.tu [.ag t.cs, iD 0]) := qFh t h 0 (by omega)
  have k1 := qFW r t.cols h.cols hr
  have hlen := Tb.len h
  obtain ⟨tn, tc, a, b⟩ := t
  obtain ⟨hn, hc, hk, ha, hb⟩ := h
  have hl5 := hc.len
  have t1 := qCP r (by have := hr.len; dsimp only at *; omega)
  obtain ⟨kr, lr, rfl⟩ := qDx hr hk
  have ha4 := ha.len
  have hb4 := hb.len
  have hcl := ha
  unfold insD
  rw [drF_zero]
  unfold Tb.cs at *
  dsimp only at *
  have hgr : ((numV kr :: lr).map Vl.cs)[0]? = some [iD 2, iD kr, qD 0, strD .empty] := rfl
  refine qAs Tryd.func12 rfl (by kernel_rfl) mixed (by kernel_rfl) (qle (by kernel_rfl)) Tryd.results12 ?_
  repeat (first | (with_reducible first | apply qAj | apply qAh | apply qAi | apply qAg | apply qAq | apply qAm) | ((with_reducible apply rp); first | (exact qA0 (tyOk rfl) rfl rfl rfl hlen) | ((with_reducible apply qAP); (iterate 3 exact rfl); exact (b1)) | ((with_reducible apply qAf); exact rfl; exact rfl; exact (k1); exact rfl) | (exact does_load_dr0 (a := a) (b := b) (pre := [bD true, strD tn, qAY tc]) (tyOk rfl) rfl rfl rfl rfl rfl ha4 hb4) | ((with_reducible apply qAd); (conv => lhs; whnf)) | ((with_reducible apply qAa); (conv => lhs; whnf)) | ((with_reducible apply qAc); exact tyOk rfl; exact rfl; exact rfl; decide; exact rfl) | ((with_reducible apply qAe); exact tyOk rfl; (iterate 4 exact rfl)) | ((with_reducible apply qAL); exact tyOk rfl; (iterate 3 exact rfl); (dsimp only; omega); decide; exact rfl) | ((with_reducible apply qAV); exact rfl; exact rfl) | ((with_reducible apply qAv); exact rfl; exact rfl)) | ((with_reducible apply rp1); first | ((with_reducible apply qAn); exact rfl; exact rfl) | ((with_reducible apply qAk); exact tyOk rfl; exact rfl)) | ((with_reducible apply rpN); (exact qAb (tyOk rfl) rfl rfl rfl hlen (List.length_map _).symm)) | ((with_reducible apply qA9); exact rfl; exact rfl))
  refine qBn (fun m s => ∃ k, k ≤ 4 ∧ m = 4 - k ∧ (∀ j c, j < k → a[j]? = some c → c.full = true → keyN c.row ≠ kr) ∧ s = ⟨[(1, .d (iD 0)), (2, .d (qBz (numV kr :: lr))), (3, .px 3 0), (6, .px 6 0), (10, .d (iD (qB3 a k))), (34, .d (.ag (a.flatMap Ce.cs))), (35, .d (iD k))], [(3, .var 30 (([bD true, strD tn, qAY tc] ++ (a.flatMap Ce.cs ++ b.flatMap Ce.cs)).map .d)), (6, .var 30 (tb0.map .d))]⟩) _ _ ?_ ⟨0, by omega, rfl, fun _ _ h => absurd h (by omega), rfl⟩ ?_
  · refine qAx [] (by repeat' (first | exact qAI | (refine qAD rfl (by exact SubA.refl _) ?_))) (by repeat' (first | exact trivial | exact rfl | exact kb_d rfl | refine And.intro ?_ ?_)) rfl (by repeat' (first | exact trivial | exact qAH _ | exact qAp rfl | refine And.intro ?_ ?_)) (by repeat' (first | exact trivial | exact qAH _ | exact qAp rfl | refine And.intro ?_ ?_))
  · rintro m s ⟨k, hk4, rfl, hall, rfl⟩
    repeat (first | (with_reducible first | apply qAj | apply qAh | apply qAi | apply qAg) | ((with_reducible apply rp); ((with_reducible apply qAU); exact rfl; exact rfl)))
    refine qAo rfl (fun hd => ?_) (fun hd => ?_)
    · have hlt4 : k < 4 := by simp at hd; omega
      clear hd
      obtain ⟨c, hcc⟩ : ∃ c, a[k]? = some c := ⟨_, List.getElem?_eq_getElem (by omega)⟩
      have hco := hcl.ok c (List.mem_of_getElem? hcc)
      have hgd : a.getD k ⟨true, []⟩ = c := by rw [List.getD_eq_getElem?_getD, hcc]; rfl
      have hm := List.mem_of_getElem? hcc
      obtain ⟨cf, cr⟩ := c
      cases cf with
      | true =>
        obtain ⟨kc, lc, e1⟩ := qDx (hco.fit rfl) hk
        dsimp only at e1
        subst e1
        have hgc : ((numV kc :: lc).map Vl.cs)[0]? = some [iD 2, iD kc, qD 0, strD .empty] := rfl
        have hfn : qB3 a (k + 1) = qB3 a k := by
          conv => lhs; unfold qB3
          rw [hgd, if_neg (by simp)]
        repeat (first | (with_reducible first | apply qAj | apply qAh | apply qAi | apply qAg | apply qA5 | apply qAq | apply qAm) | ((with_reducible apply qBh); (first | kernel_rfl | exact rfl)) | ((first | (with_reducible first | apply rp | apply dr) | ((with_reducible apply drG); exact rfl; exact qAZ rfl; (focus repeat' (first | exact trivial | exact fun h => h | refine And.intro ?_ ?_)); intro hgd; have hgd0 := hgd; (try simp only [decide_eq_true_eq, Bool.and_eq_true, Bool.not_eq_true', beq_iff_eq] at hgd))); first | (exact qBr (d := a) (c := ⟨true, numV kc :: lc⟩) (tyOk rfl) rfl (tyOk rfl) rfl rfl rfl rfl rfl ha4 hcc) | ((with_reducible first | apply qAd | apply qAa); (conv => lhs; whnf)) | ((with_reducible first | apply qAQ | apply qAc | apply qAe | apply qCs) <;> first | ((with_reducible apply tyOk); exact rfl) | ((with_reducible apply tgOk); exact rfl) | exact rfl | exact fun h => h | decide) | ((with_reducible apply qAG); exact tyOk rfl; exact rfl; exact rfl; assumption; exact rfl) | ((with_reducible apply qAM); exact tyOk rfl; exact rfl; exact tyOk rfl; (iterate 4 exact rfl); (dsimp only; simp only [List.length_map, List.length_append, List.length_cons, List.length_nil] at *; omega))) | ((with_reducible apply rp1); ((with_reducible apply qAk); exact tyOk rfl; exact rfl)) | ((with_reducible apply rpN); ((with_reducible apply qAb); exact tyOk rfl; (iterate 5 exact rfl))))
        refine qAo rfl (fun hd => ?_) (fun hd => ?_)
        · have hkk : kc = kr := by simp at hd; exact hd
          clear hd
          rw [if_pos (by
            unfold qDL
            rw [List.any_eq_true]
            exact ⟨_, hm, by simpa [keyN, keyV, numV] using hkk⟩)]
          repeat (first | (with_reducible first | apply qAj | apply qAh | apply qAi | apply qAg | apply qAu | apply qAS | apply qBe | apply qAy) | ((with_reducible apply rp); first | ((with_reducible apply qAa); (conv => lhs; whnf)) | ((with_reducible apply qAW); exact tyOk rfl; exact rfl; exact rfl)) | ((with_reducible apply rpN); ((with_reducible apply qAb); exact tyOk rfl; (iterate 5 exact rfl))))
          (with_reducible apply qAz); (focus (repeat' (first | (with_reducible apply qAw) | (with_reducible apply qAr) | ((with_reducible apply qAB); exact rfl) | ((with_reducible apply qAA); exact rfl; exact rfl; exact tyOk rfl; exact rfl; exact rfl)))); exact rfl; refine SubD.of_eq ?_
          rfl
        · have hkk : kc ≠ kr := by intro e; subst e; simp at hd
          clear hd
          repeat (first | (with_reducible first | apply qAj | apply qAh | apply qAi | apply qAg | apply qAm) | ((first | (with_reducible apply rp) | ((with_reducible apply rpG); exact rfl; exact qAZ rfl; (focus repeat' (first | exact trivial | exact fun h => h | refine And.intro ?_ ?_)); intro hgd; have hgd0 := hgd; (try simp only [decide_eq_true_eq, Bool.and_eq_true, Bool.not_eq_true', beq_iff_eq] at hgd))); first | ((with_reducible apply qAd); (conv => lhs; whnf)) | ((with_reducible first | apply qAQ | apply qAc | apply qAe | apply qAU | apply qAX) <;> first | ((with_reducible apply tyOk); exact rfl) | exact rfl | exact fun h => h | decide)))
          refine qAo rfl (fun hd => absurd hd (by simp)) (fun hd => ?_)
          clear hd
          repeat (first | (with_reducible first | apply qAh | apply qAi | apply qAg | apply qAF | apply qAm) | ((with_reducible apply rp); first | ((with_reducible apply qAd); (conv => lhs; whnf)) | ((with_reducible apply qAJ); exact rfl; exact rfl; omega; omega)))
          refine ⟨_, _, ?_, ?_, k + 1, by omega, rfl, fun j c hj hc hf => ?_, rfl⟩
          · omega
          · rw [hfn]
            refine qAx [] (by repeat' (first | exact qAI | (refine qAD rfl (by exact SubA.refl _) ?_))) (by repeat' (first | exact trivial | exact rfl | exact kb_d rfl | refine And.intro ?_ ?_)) rfl (by repeat' (first | exact trivial | exact qAH _ | exact qAp rfl | refine And.intro ?_ ?_)) (by repeat' (first | exact trivial | exact qAH _ | exact qAp rfl | refine And.intro ?_ ?_))
          · rcases (by omega : j < k ∨ j = k) with h1 | rfl
            · exact hall j c h1 hc hf
            · rw [hcc] at hc
              injection hc with hc
              subst hc
              exact hkk
      | false =>
        have hr0 : cr = [] := hco.none rfl
        subst hr0
        repeat (first | (with_reducible first | apply qAj | apply qAh | apply qAi | apply qAg | apply qA5 | apply qAq | apply qAm) | ((with_reducible apply qBh); (first | kernel_rfl | exact rfl)) | ((first | (with_reducible first | apply rp | apply dr) | ((with_reducible apply drG); exact rfl; exact qAZ rfl; (focus repeat' (first | exact trivial | exact fun h => h | refine And.intro ?_ ?_)); intro hgd; have hgd0 := hgd; (try simp only [decide_eq_true_eq, Bool.and_eq_true, Bool.not_eq_true', beq_iff_eq] at hgd))); first | (exact qBr (d := a) (c := ⟨false, []⟩) (tyOk rfl) rfl (tyOk rfl) rfl rfl rfl rfl rfl ha4 hcc) | ((with_reducible first | apply qAd | apply qAa); (conv => lhs; whnf)) | ((with_reducible apply qCd); exact rfl; (first | assumption | decide); (conv => lhs; whnf)) | ((with_reducible first | apply qAc | apply qAe) <;> first | ((with_reducible apply tyOk); exact rfl) | exact rfl | decide) | ((with_reducible apply qAG); exact tyOk rfl; exact rfl; exact rfl; assumption; exact rfl) | ((with_reducible apply qAM); exact tyOk rfl; exact rfl; exact tyOk rfl; (iterate 4 exact rfl); (dsimp only; simp only [List.length_map, List.length_append, List.length_cons, List.length_nil] at *; omega))) | ((with_reducible apply rp1); ((with_reducible apply qAk); exact tyOk rfl; exact rfl)) | ((with_reducible apply rpN); ((with_reducible apply qAb); exact tyOk rfl; (iterate 5 exact rfl))) | ((first | (with_reducible apply rpGF) | (with_reducible apply drGF)); exact rfl; exact qAZ rfl; (first | assumption | decide | exact rfl); (focus repeat' (first | exact trivial | exact fun h => h | refine And.intro ?_ ?_))))
        refine qAo rfl (fun hd => absurd hd (by decide)) (fun hd => ?_)
        clear hd
        repeat (first | (with_reducible first | apply qAj | apply qAh | apply qAi | apply qAg | apply qAm) | ((first | (with_reducible apply rp) | ((with_reducible apply rpG); exact rfl; exact qAZ rfl; (focus repeat' (first | exact trivial | exact fun h => h | refine And.intro ?_ ?_)); intro hgd; have hgd0 := hgd; (try simp only [decide_eq_true_eq, Bool.and_eq_true, Bool.not_eq_true', beq_iff_eq] at hgd))); first | ((with_reducible apply qAd); (conv => lhs; whnf)) | ((with_reducible first | apply qAQ | apply qAc | apply qAe | apply qAU | apply qAX) <;> first | ((with_reducible apply tyOk); exact rfl) | exact rfl | exact fun h => h | decide)))
        refine qAo rfl (fun hd => ?_) (fun hd => ?_)
        · have hfl : qB3 a k < 0 := by simpa using hd
          clear hd
          have hfn : qB3 a (k + 1) = (k : Nat) := by
            conv => lhs; unfold qB3
            rw [hgd, if_pos ⟨hfl, rfl⟩]
          repeat (first | (with_reducible first | apply qAh | apply qAi | apply qAg | apply qAF) | ((with_reducible apply rp); first | ((with_reducible apply qAd); (conv => lhs; whnf)) | ((with_reducible apply qAa); (conv => lhs; whnf)) | ((with_reducible apply qAJ); exact rfl; exact rfl; omega; omega)))
          refine ⟨_, _, ?_, ?_, k + 1, by omega, rfl, fun j c hj hc hf => ?_, rfl⟩
          · omega
          · rw [hfn]
            refine qAx [] (by repeat' (first | exact qAI | (refine qAD rfl (by exact SubA.refl _) ?_))) (by repeat' (first | exact trivial | exact rfl | exact kb_d rfl | refine And.intro ?_ ?_)) rfl (by repeat' (first | exact trivial | exact qAH _ | exact qAp rfl | refine And.intro ?_ ?_)) (by repeat' (first | exact trivial | exact qAH _ | exact qAp rfl | refine And.intro ?_ ?_))
          · rcases (by omega : j < k ∨ j = k) with h1 | rfl
            · exact hall j c h1 hc hf
            · rw [hcc] at hc
              injection hc with hc
              subst hc
              cases hf
        · have hfl : ¬ qB3 a k < 0 := by simpa using hd
          clear hd
          have hfn : qB3 a (k + 1) = qB3 a k := by
            conv => lhs; unfold qB3
            rw [if_neg (by intro h; exact hfl h.1)]
          repeat (first | (with_reducible first | apply qAh | apply qAi | apply qAg | apply qAF | apply qAm) | ((with_reducible apply rp); first | ((with_reducible apply qAd); (conv => lhs; whnf)) | ((with_reducible apply qAJ); exact rfl; exact rfl; omega; omega)))
          refine ⟨_, _, ?_, ?_, k + 1, by omega, rfl, fun j c hj hc hf => ?_, rfl⟩
          · omega
          · rw [hfn]
            refine qAx [] (by repeat' (first | exact qAI | (refine qAD rfl (by exact SubA.refl _) ?_))) (by repeat' (first | exact trivial | exact rfl | exact kb_d rfl | refine And.intro ?_ ?_)) rfl (by repeat' (first | exact trivial | exact qAH _ | exact qAp rfl | refine And.intro ?_ ?_)) (by repeat' (first | exact trivial | exact qAH _ | exact qAp rfl | refine And.intro ?_ ?_))
          · rcases (by omega : j < k ∨ j = k) with h1 | rfl
            · exact hall j c h1 hc hf
            · rw [hcc] at hc
              injection hc with hc
              subst hc
              cases hf
    · have hke : k = 4 := by simp at hd; omega
      clear hd
      subst hke
      rw [if_neg (by
        unfold qDL
        rw [List.any_eq_true]
        rintro ⟨c, hm, hp⟩
        obtain ⟨j, hj⟩ := List.getElem?_of_mem hm
        have hjl := (List.getElem?_eq_some_iff.1 hj).1
        simp only [Bool.and_eq_true, decide_eq_true_eq] at hp
        exact hall j c (by omega) hj hp.1 hp.2)]
      clear hall
      rcases freeN_lt a 4 with hfr | ⟨n, hn4, hfr⟩
      · rw [if_pos hfr]
        repeat (first | (with_reducible first | apply qAj | apply qAh | apply qAi | apply qAg | apply qBd | apply qBa | apply qBc) | ((with_reducible apply rp); first | ((with_reducible apply qAd); (conv => lhs; whnf)) | ((with_reducible apply qAU); exact rfl; exact rfl)))
        refine qAo rfl (fun hd => ?_) (fun hd => ?_)
        · clear hd
          repeat (first | (with_reducible first | apply qAj | apply qAh | apply qAi | apply qAg | apply qAu | apply qAS | apply qAy) | ((with_reducible apply rp); first | ((with_reducible apply qAa); (conv => lhs; whnf)) | ((with_reducible apply qAW); exact tyOk rfl; exact rfl; exact rfl)) | ((with_reducible apply rpN); ((with_reducible apply qAb); exact tyOk rfl; (iterate 5 exact rfl))))
          (with_reducible apply qAz); (focus (repeat' (first | (with_reducible apply qAw) | (with_reducible apply qAr) | ((with_reducible apply qAB); exact rfl) | ((with_reducible apply qAA); exact rfl; exact rfl; exact tyOk rfl; exact rfl; exact rfl)))); exact rfl; refine SubD.of_eq ?_
          rfl
        · exfalso
          simp at hd
          omega
      · rw [if_neg (by omega), hfr]
        clear hfr
        rw [Int.toNat_natCast]
        obtain ⟨a0, a1, a2, a3, rfl⟩ := qEU ha4
        obtain ⟨b0, b1, b2, b3, rfl⟩ := qEU hb4
        rcases (by omega : n = 0 ∨ n = 1 ∨ n = 2 ∨ n = 3) with rfl | rfl | rfl | rfl
        · repeat (first | (with_reducible first | apply qAj | apply qAh | apply qAi | apply qAg | apply qA5 | apply qBd | apply qBa | apply qBc | apply qAu | apply qAy | apply qAm) | ((with_reducible apply qBh); (first | kernel_rfl | exact rfl)) | ((with_reducible first | apply rp | apply dr); first | ((with_reducible apply qAP); (iterate 3 exact rfl); exact (t1)) | ((with_reducible first | apply qAd | apply qAa); (conv => lhs; whnf)) | ((with_reducible first | apply qAc | apply qAl | apply qAU) <;> first | ((with_reducible apply tyOk); exact rfl) | exact rfl | exact qle rfl | decide) | ((with_reducible apply qAL); exact tyOk rfl; (iterate 3 exact rfl); (first | omega | (dsimp only; omega)); decide; exact rfl) | ((with_reducible apply qAT); exact tyOk rfl; exact rfl; exact rfl; (focus repeat' (first | exact rfl | refine ⟨_, _, rfl, rfl, qle rfl, rfl, ?_⟩)); exact rfl)) | ((with_reducible first | apply rpN | apply drN); first | ((with_reducible apply qAb); exact tyOk rfl; (iterate 5 exact rfl)) | ((with_reducible apply qBm); exact tyOk rfl; (iterate 4 exact rfl); exact qle rfl)) | ((with_reducible apply qA9); exact rfl; exact rfl))
          (with_reducible apply qAz); (focus (repeat' (first | (with_reducible apply qAw) | (with_reducible apply qAr) | ((with_reducible apply qAB); exact rfl) | ((with_reducible apply qAA); exact rfl; exact rfl; exact tyOk rfl; exact rfl; exact rfl)))); exact rfl; refine SubD.of_eq ?_
          rfl
        · repeat (first | (with_reducible first | apply qAj | apply qAh | apply qAi | apply qAg | apply qA5 | apply qBd | apply qBa | apply qBc | apply qAu | apply qAy | apply qAm) | ((with_reducible apply qBh); (first | kernel_rfl | exact rfl)) | ((with_reducible first | apply rp | apply dr); first | ((with_reducible apply qAP); (iterate 3 exact rfl); exact (t1)) | ((with_reducible first | apply qAd | apply qAa); (conv => lhs; whnf)) | ((with_reducible first | apply qAc | apply qAl | apply qAU) <;> first | ((with_reducible apply tyOk); exact rfl) | exact rfl | exact qle rfl | decide) | ((with_reducible apply qAL); exact tyOk rfl; (iterate 3 exact rfl); (first | omega | (dsimp only; omega)); decide; exact rfl) | ((with_reducible apply qAT); exact tyOk rfl; exact rfl; exact rfl; (focus repeat' (first | exact rfl | refine ⟨_, _, rfl, rfl, qle rfl, rfl, ?_⟩)); exact rfl)) | ((with_reducible first | apply rpN | apply drN); first | ((with_reducible apply qAb); exact tyOk rfl; (iterate 5 exact rfl)) | ((with_reducible apply qBm); exact tyOk rfl; (iterate 4 exact rfl); exact qle rfl)) | ((with_reducible apply qA9); exact rfl; exact rfl))
          (with_reducible apply qAz); (focus (repeat' (first | (with_reducible apply qAw) | (with_reducible apply qAr) | ((with_reducible apply qAB); exact rfl) | ((with_reducible apply qAA); exact rfl; exact rfl; exact tyOk rfl; exact rfl; exact rfl)))); exact rfl; refine SubD.of_eq ?_
          rfl
        · repeat (first | (with_reducible first | apply qAj | apply qAh | apply qAi | apply qAg | apply qA5 | apply qBd | apply qBa | apply qBc | apply qAu | apply qAy | apply qAm) | ((with_reducible apply qBh); (first | kernel_rfl | exact rfl)) | ((with_reducible first | apply rp | apply dr); first | ((with_reducible apply qAP); (iterate 3 exact rfl); exact (t1)) | ((with_reducible first | apply qAd | apply qAa); (conv => lhs; whnf)) | ((with_reducible first | apply qAc | apply qAl | apply qAU) <;> first | ((with_reducible apply tyOk); exact rfl) | exact rfl | exact qle rfl | decide) | ((with_reducible apply qAL); exact tyOk rfl; (iterate 3 exact rfl); (first | omega | (dsimp only; omega)); decide; exact rfl) | ((with_reducible apply qAT); exact tyOk rfl; exact rfl; exact rfl; (focus repeat' (first | exact rfl | refine ⟨_, _, rfl, rfl, qle rfl, rfl, ?_⟩)); exact rfl)) | ((with_reducible first | apply rpN | apply drN); first | ((with_reducible apply qAb); exact tyOk rfl; (iterate 5 exact rfl)) | ((with_reducible apply qBm); exact tyOk rfl; (iterate 4 exact rfl); exact qle rfl)) | ((with_reducible apply qA9); exact rfl; exact rfl))
          (with_reducible apply qAz); (focus (repeat' (first | (with_reducible apply qAw) | (with_reducible apply qAr) | ((with_reducible apply qAB); exact rfl) | ((with_reducible apply qAA); exact rfl; exact rfl; exact tyOk rfl; exact rfl; exact rfl)))); exact rfl; refine SubD.of_eq ?_
          rfl
        · repeat (first | (with_reducible first | apply qAj | apply qAh | apply qAi | apply qAg | apply qA5 | apply qBd | apply qBa | apply qBc | apply qAu | apply qAy | apply qAm) | ((with_reducible apply qBh); (first | kernel_rfl | exact rfl)) | ((with_reducible first | apply rp | apply dr); first | ((with_reducible apply qAP); (iterate 3 exact rfl); exact (t1)) | ((with_reducible first | apply qAd | apply qAa); (conv => lhs; whnf)) | ((with_reducible first | apply qAc | apply qAl | apply qAU) <;> first | ((with_reducible apply tyOk); exact rfl) | exact rfl | exact qle rfl | decide) | ((with_reducible apply qAL); exact tyOk rfl; (iterate 3 exact rfl); (first | omega | (dsimp only; omega)); decide; exact rfl) | ((with_reducible apply qAT); exact tyOk rfl; exact rfl; exact rfl; (focus repeat' (first | exact rfl | refine ⟨_, _, rfl, rfl, qle rfl, rfl, ?_⟩)); exact rfl)) | ((with_reducible first | apply rpN | apply drN); first | ((with_reducible apply qAb); exact tyOk rfl; (iterate 5 exact rfl)) | ((with_reducible apply qBm); exact tyOk rfl; (iterate 4 exact rfl); exact qle rfl)) | ((with_reducible apply qA9); exact rfl; exact rfl))
          (with_reducible apply qAz); (focus (repeat' (first | (with_reducible apply qAw) | (with_reducible apply qAr) | ((with_reducible apply qAB); exact rfl) | ((with_reducible apply qAA); exact rfl; exact rfl; exact tyOk rfl; exact rfl; exact rfl)))); exact rfl; refine SubD.of_eq ?_
          rfl
set_option maxHeartbeats 8000000 in
theorem insert1_pc (t : Tb) (h : TbOk t) (r : List Vl) (hr : FitR r t.cols) : PC Tryd.prog 12 [.ag t.cs, iD 1, qBz r] (insD t 1 r) := by
  have b1 : PC Tryd.prog 39 [.ag t.cs, iD 1] (.tu [.ag t.cs, iD 0]) := qFh t h 1 (by omega)
  have k1 := qFW r t.cols h.cols hr
  have hlen := Tb.len h
  obtain ⟨tn, tc, a, b⟩ := t
  obtain ⟨hn, hc, hk, ha, hb⟩ := h
  have hl5 := hc.len
  have t1 := qCP r (by have := hr.len; dsimp only at *; omega)
  obtain ⟨kr, lr, rfl⟩ := qDx hr hk
  have ha4 := ha.len
  have hb4 := hb.len
  have hcl := hb
  unfold insD
  rw [drF_one]
  unfold Tb.cs at *
  dsimp only at *
  have hgr : ((numV kr :: lr).map Vl.cs)[0]? = some [iD 2, iD kr, qD 0, strD .empty] := rfl
  refine qAs Tryd.func12 rfl (by kernel_rfl) mixed (by kernel_rfl) (qle (by kernel_rfl)) Tryd.results12 ?_
  repeat (first | (with_reducible first | apply qAj | apply qAh | apply qAi | apply qAg | apply qAq | apply qAm) | ((with_reducible apply rp); first | (exact qA0 (tyOk rfl) rfl rfl rfl hlen) | ((with_reducible apply qAP); (iterate 3 exact rfl); exact (b1)) | ((with_reducible apply qAf); exact rfl; exact rfl; exact (k1); exact rfl) | (exact does_load_dr1 (a := a) (b := b) (pre := [bD true, strD tn, qAY tc]) (tyOk rfl) rfl rfl rfl rfl rfl ha4 hb4) | ((with_reducible apply qAd); (conv => lhs; whnf)) | ((with_reducible apply qAa); (conv => lhs; whnf)) | ((with_reducible apply qAc); exact tyOk rfl; exact rfl; exact rfl; decide; exact rfl) | ((with_reducible apply qAe); exact tyOk rfl; (iterate 4 exact rfl)) | ((with_reducible apply qAL); exact tyOk rfl; (iterate 3 exact rfl); (dsimp only; omega); decide; exact rfl) | ((with_reducible apply qAV); exact rfl; exact rfl) | ((with_reducible apply qAv); exact rfl; exact rfl)) | ((with_reducible apply rp1); first | ((with_reducible apply qAn); exact rfl; exact rfl) | ((with_reducible apply qAk); exact tyOk rfl; exact rfl)) | ((with_reducible apply rpN); (exact qAb (tyOk rfl) rfl rfl rfl hlen (List.length_map _).symm)) | ((with_reducible apply qA9); exact rfl; exact rfl))
  refine qBn (fun m s => ∃ k, k ≤ 4 ∧ m = 4 - k ∧ (∀ j c, j < k → b[j]? = some c → c.full = true → keyN c.row ≠ kr) ∧ s = ⟨[(1, .d (iD 1)), (2, .d (qBz (numV kr :: lr))), (3, .px 3 0), (6, .px 6 0), (10, .d (iD (qB3 b k))), (34, .d (.ag (b.flatMap Ce.cs))), (35, .d (iD k))], [(3, .var 30 (([bD true, strD tn, qAY tc] ++ (a.flatMap Ce.cs ++ b.flatMap Ce.cs)).map .d)), (6, .var 30 (tb0.map .d))]⟩) _ _ ?_ ⟨0, by omega, rfl, fun _ _ h => absurd h (by omega), rfl⟩ ?_
  · refine qAx [] (by repeat' (first | exact qAI | (refine qAD rfl (by exact SubA.refl _) ?_))) (by repeat' (first | exact trivial | exact rfl | exact kb_d rfl | refine And.intro ?_ ?_)) rfl (by repeat' (first | exact trivial | exact qAH _ | exact qAp rfl | refine And.intro ?_ ?_)) (by repeat' (first | exact trivial | exact qAH _ | exact qAp rfl | refine And.intro ?_ ?_))
  · rintro m s ⟨k, hk4, rfl, hall, rfl⟩
    repeat (first | (with_reducible first | apply qAj | apply qAh | apply qAi | apply qAg) | ((with_reducible apply rp); ((with_reducible apply qAU); exact rfl; exact rfl)))
    refine qAo rfl (fun hd => ?_) (fun hd => ?_)
    · have hlt4 : k < 4 := by simp at hd; omega
      clear hd
      obtain ⟨c, hcc⟩ : ∃ c, b[k]? = some c := ⟨_, List.getElem?_eq_getElem (by omega)⟩
      have hco := hcl.ok c (List.mem_of_getElem? hcc)
      have hgd : b.getD k ⟨true, []⟩ = c := by rw [List.getD_eq_getElem?_getD, hcc]; rfl
      have hm := List.mem_of_getElem? hcc
      obtain ⟨cf, cr⟩ := c
      cases cf with
      | true =>
        obtain ⟨kc, lc, e1⟩ := qDx (hco.fit rfl) hk
        dsimp only at e1
        subst e1
        have hgc : ((numV kc :: lc).map Vl.cs)[0]? = some [iD 2, iD kc, qD 0, strD .empty] := rfl
        have hfn : qB3 b (k + 1) = qB3 b k := by
          conv => lhs; unfold qB3
          rw [hgd, if_neg (by simp)]
        repeat (first | (with_reducible first | apply qAj | apply qAh | apply qAi | apply qAg | apply qA5 | apply qAq | apply qAm) | ((with_reducible apply qBh); (first | kernel_rfl | exact rfl)) | ((first | (with_reducible first | apply rp | apply dr) | ((with_reducible apply drG); exact rfl; exact qAZ rfl; (focus repeat' (first | exact trivial | exact fun h => h | refine And.intro ?_ ?_)); intro hgd; have hgd0 := hgd; (try simp only [decide_eq_true_eq, Bool.and_eq_true, Bool.not_eq_true', beq_iff_eq] at hgd))); first | (exact qBr (d := b) (c := ⟨true, numV kc :: lc⟩) (tyOk rfl) rfl (tyOk rfl) rfl rfl rfl rfl rfl hb4 hcc) | ((with_reducible first | apply qAd | apply qAa); (conv => lhs; whnf)) | ((with_reducible first | apply qAQ | apply qAc | apply qAe | apply qCs) <;> first | ((with_reducible apply tyOk); exact rfl) | ((with_reducible apply tgOk); exact rfl) | exact rfl | exact fun h => h | decide) | ((with_reducible apply qAG); exact tyOk rfl; exact rfl; exact rfl; assumption; exact rfl) | ((with_reducible apply qAM); exact tyOk rfl; exact rfl; exact tyOk rfl; (iterate 4 exact rfl); (dsimp only; simp only [List.length_map, List.length_append, List.length_cons, List.length_nil] at *; omega))) | ((with_reducible apply rp1); ((with_reducible apply qAk); exact tyOk rfl; exact rfl)) | ((with_reducible apply rpN); ((with_reducible apply qAb); exact tyOk rfl; (iterate 5 exact rfl))))
        refine qAo rfl (fun hd => ?_) (fun hd => ?_)
        · have hkk : kc = kr := by simp at hd; exact hd
          clear hd
          rw [if_pos (by
            unfold qDL
            rw [List.any_eq_true]
            exact ⟨_, hm, by simpa [keyN, keyV, numV] using hkk⟩)]
          repeat (first | (with_reducible first | apply qAj | apply qAh | apply qAi | apply qAg | apply qAu | apply qAS | apply qBe | apply qAy) | ((with_reducible apply rp); first | ((with_reducible apply qAa); (conv => lhs; whnf)) | ((with_reducible apply qAW); exact tyOk rfl; exact rfl; exact rfl)) | ((with_reducible apply rpN); ((with_reducible apply qAb); exact tyOk rfl; (iterate 5 exact rfl))))
          (with_reducible apply qAz); (focus (repeat' (first | (with_reducible apply qAw) | (with_reducible apply qAr) | ((with_reducible apply qAB); exact rfl) | ((with_reducible apply qAA); exact rfl; exact rfl; exact tyOk rfl; exact rfl; exact rfl)))); exact rfl; refine SubD.of_eq ?_
          rfl
        · have hkk : kc ≠ kr := by intro e; subst e; simp at hd
          clear hd
          repeat (first | (with_reducible first | apply qAj | apply qAh | apply qAi | apply qAg | apply qAm) | ((first | (with_reducible apply rp) | ((with_reducible apply rpG); exact rfl; exact qAZ rfl; (focus repeat' (first | exact trivial | exact fun h => h | refine And.intro ?_ ?_)); intro hgd; have hgd0 := hgd; (try simp only [decide_eq_true_eq, Bool.and_eq_true, Bool.not_eq_true', beq_iff_eq] at hgd))); first | ((with_reducible apply qAd); (conv => lhs; whnf)) | ((with_reducible first | apply qAQ | apply qAc | apply qAe | apply qAU | apply qAX) <;> first | ((with_reducible apply tyOk); exact rfl) | exact rfl | exact fun h => h | decide)))
          refine qAo rfl (fun hd => absurd hd (by simp)) (fun hd => ?_)
          clear hd
          repeat (first | (with_reducible first | apply qAh | apply qAi | apply qAg | apply qAF | apply qAm) | ((with_reducible apply rp); first | ((with_reducible apply qAd); (conv => lhs; whnf)) | ((with_reducible apply qAJ); exact rfl; exact rfl; omega; omega)))
          refine ⟨_, _, ?_, ?_, k + 1, by omega, rfl, fun j c hj hc hf => ?_, rfl⟩
          · omega
          · rw [hfn]
            refine qAx [] (by repeat' (first | exact qAI | (refine qAD rfl (by exact SubA.refl _) ?_))) (by repeat' (first | exact trivial | exact rfl | exact kb_d rfl | refine And.intro ?_ ?_)) rfl (by repeat' (first | exact trivial | exact qAH _ | exact qAp rfl | refine And.intro ?_ ?_)) (by repeat' (first | exact trivial | exact qAH _ | exact qAp rfl | refine And.intro ?_ ?_))
          · rcases (by omega : j < k ∨ j = k) with h1 | rfl
            · exact hall j c h1 hc hf
            · rw [hcc] at hc
              injection hc with hc
              subst hc
              exact hkk
      | false =>
        have hr0 : cr = [] := hco.none rfl
        subst hr0
        repeat (first | (with_reducible first | apply qAj | apply qAh | apply qAi | apply qAg | apply qA5 | apply qAq | apply qAm) | ((with_reducible apply qBh); (first | kernel_rfl | exact rfl)) | ((first | (with_reducible first | apply rp | apply dr) | ((with_reducible apply drG); exact rfl; exact qAZ rfl; (focus repeat' (first | exact trivial | exact fun h => h | refine And.intro ?_ ?_)); intro hgd; have hgd0 := hgd; (try simp only [decide_eq_true_eq, Bool.and_eq_true, Bool.not_eq_true', beq_iff_eq] at hgd))); first | (exact qBr (d := b) (c := ⟨false, []⟩) (tyOk rfl) rfl (tyOk rfl) rfl rfl rfl rfl rfl hb4 hcc) | ((with_reducible first | apply qAd | apply qAa); (conv => lhs; whnf)) | ((with_reducible apply qCd); exact rfl; (first | assumption | decide); (conv => lhs; whnf)) | ((with_reducible first | apply qAc | apply qAe) <;> first | ((with_reducible apply tyOk); exact rfl) | exact rfl | decide) | ((with_reducible apply qAG); exact tyOk rfl; exact rfl; exact rfl; assumption; exact rfl) | ((with_reducible apply qAM); exact tyOk rfl; exact rfl; exact tyOk rfl; (iterate 4 exact rfl); (dsimp only; simp only [List.length_map, List.length_append, List.length_cons, List.length_nil] at *; omega))) | ((with_reducible apply rp1); ((with_reducible apply qAk); exact tyOk rfl; exact rfl)) | ((with_reducible apply rpN); ((with_reducible apply qAb); exact tyOk rfl; (iterate 5 exact rfl))) | ((first | (with_reducible apply rpGF) | (with_reducible apply drGF)); exact rfl; exact qAZ rfl; (first | assumption | decide | exact rfl); (focus repeat' (first | exact trivial | exact fun h => h | refine And.intro ?_ ?_))))
        refine qAo rfl (fun hd => absurd hd (by decide)) (fun hd => ?_)
        clear hd
        repeat (first | (with_reducible first | apply qAj | apply qAh | apply qAi | apply qAg | apply qAm) | ((first | (with_reducible apply rp) | ((with_reducible apply rpG); exact rfl; exact qAZ rfl; (focus repeat' (first | exact trivial | exact fun h => h | refine And.intro ?_ ?_)); intro hgd; have hgd0 := hgd; (try simp only [decide_eq_true_eq, Bool.and_eq_true, Bool.not_eq_true', beq_iff_eq] at hgd))); first | ((with_reducible apply qAd); (conv => lhs; whnf)) | ((with_reducible first | apply qAQ | apply qAc | apply qAe | apply qAU | apply qAX) <;> first | ((with_reducible apply tyOk); exact rfl) | exact rfl | exact fun h => h | decide)))
        refine qAo rfl (fun hd => ?_) (fun hd => ?_)
        · have hfl : qB3 b k < 0 := by simpa using hd
          clear hd
          have hfn : qB3 b (k + 1) = (k : Nat) := by
            conv => lhs; unfold qB3
            rw [hgd, if_pos ⟨hfl, rfl⟩]
          repeat (first | (with_reducible first | apply qAh | apply qAi | apply qAg | apply qAF) | ((with_reducible apply rp); first | ((with_reducible apply qAd); (conv => lhs; whnf)) | ((with_reducible apply qAa); (conv => lhs; whnf)) | ((with_reducible apply qAJ); exact rfl; exact rfl; omega; omega)))
          refine ⟨_, _, ?_, ?_, k + 1, by omega, rfl, fun j c hj hc hf => ?_, rfl⟩
          · omega
          · rw [hfn]
            refine qAx [] (by repeat' (first | exact qAI | (refine qAD rfl (by exact SubA.refl _) ?_))) (by repeat' (first | exact trivial | exact rfl | exact kb_d rfl | refine And.intro ?_ ?_)) rfl (by repeat' (first | exact trivial | exact qAH _ | exact qAp rfl | refine And.intro ?_ ?_)) (by repeat' (first | exact trivial | exact qAH _ | exact qAp rfl | refine And.intro ?_ ?_))
          · rcases (by omega : j < k ∨ j = k) with h1 | rfl
            · exact hall j c h1 hc hf
            · rw [hcc] at hc
              injection hc with hc
              subst hc
              cases hf
        · have hfl : ¬ qB3 b k < 0 := by simpa using hd
          clear hd
          have hfn : qB3 b (k + 1) = qB3 b k := by
            conv => lhs; unfold qB3
            rw [if_neg (by intro h; exact hfl h.1)]
          repeat (first | (with_reducible first | apply qAh | apply qAi | apply qAg | apply qAF | apply qAm) | ((with_reducible apply rp); first | ((with_reducible apply qAd); (conv => lhs; whnf)) | ((with_reducible apply qAJ); exact rfl; exact rfl; omega; omega)))
          refine ⟨_, _, ?_, ?_, k + 1, by omega, rfl, fun j c hj hc hf => ?_, rfl⟩
          · omega
          · rw [hfn]
            refine qAx [] (by repeat' (first | exact qAI | (refine qAD rfl (by exact SubA.refl _) ?_))) (by repeat' (first | exact trivial | exact rfl | exact kb_d rfl | refine And.intro ?_ ?_)) rfl (by repeat' (first | exact trivial | exact qAH _ | exact qAp rfl | refine And.intro ?_ ?_)) (by repeat' (first | exact trivial | exact qAH _ | exact qAp rfl | refine And.intro ?_ ?_))
          · rcases (by omega : j < k ∨ j = k) with h1 | rfl
            · exact hall j c h1 hc hf
            · rw [hcc] at hc
              injection hc with hc
              subst hc
              cases hf
    · have hke : k = 4 := by simp at hd; omega
      clear hd
      subst hke
      rw [if_neg (by
        unfold qDL
        rw [List.any_eq_true]
        rintro ⟨c, hm, hp⟩
        obtain ⟨j, hj⟩ := List.getElem?_of_mem hm
        have hjl := (List.getElem?_eq_some_iff.1 hj).1
        simp only [Bool.and_eq_true, decide_eq_true_eq] at hp
        exact hall j c (by omega) hj hp.1 hp.2)]
      clear hall
      rcases freeN_lt b 4 with hfr | ⟨n, hn4, hfr⟩
      · rw [if_pos hfr]
        repeat (first | (with_reducible first | apply qAj | apply qAh | apply qAi | apply qAg | apply qBd | apply qBa | apply qBc) | ((with_reducible apply rp); first | ((with_reducible apply qAd); (conv => lhs; whnf)) | ((with_reducible apply qAU); exact rfl; exact rfl)))
        refine qAo rfl (fun hd => ?_) (fun hd => ?_)
        · clear hd
          repeat (first | (with_reducible first | apply qAj | apply qAh | apply qAi | apply qAg | apply qAu | apply qAS | apply qAy) | ((with_reducible apply rp); first | ((with_reducible apply qAa); (conv => lhs; whnf)) | ((with_reducible apply qAW); exact tyOk rfl; exact rfl; exact rfl)) | ((with_reducible apply rpN); ((with_reducible apply qAb); exact tyOk rfl; (iterate 5 exact rfl))))
          (with_reducible apply qAz); (focus (repeat' (first | (with_reducible apply qAw) | (with_reducible apply qAr) | ((with_reducible apply qAB); exact rfl) | ((with_reducible apply qAA); exact rfl; exact rfl; exact tyOk rfl; exact rfl; exact rfl)))); exact rfl; refine SubD.of_eq ?_
          rfl
        · exfalso
          simp at hd
          omega
      · rw [if_neg (by omega), hfr]
        clear hfr
        rw [Int.toNat_natCast]
        obtain ⟨a0, a1, a2, a3, rfl⟩ := qEU ha4
        obtain ⟨b0, b1, b2, b3, rfl⟩ := qEU hb4
        rcases (by omega : n = 0 ∨ n = 1 ∨ n = 2 ∨ n = 3) with rfl | rfl | rfl | rfl
        · repeat (first | (with_reducible first | apply qAj | apply qAh | apply qAi | apply qAg | apply qA5 | apply qBd | apply qBa | apply qBc | apply qAu | apply qAy | apply qAm) | ((with_reducible apply qBh); (first | kernel_rfl | exact rfl)) | ((with_reducible first | apply rp | apply dr); first | ((with_reducible apply qAP); (iterate 3 exact rfl); exact (t1)) | ((with_reducible first | apply qAd | apply qAa); (conv => lhs; whnf)) | ((with_reducible first | apply qAc | apply qAl | apply qAU) <;> first | ((with_reducible apply tyOk); exact rfl) | exact rfl | exact qle rfl | decide) | ((with_reducible apply qAL); exact tyOk rfl; (iterate 3 exact rfl); (first | omega | (dsimp only; omega)); decide; exact rfl) | ((with_reducible apply qAT); exact tyOk rfl; exact rfl; exact rfl; (focus repeat' (first | exact rfl | refine ⟨_, _, rfl, rfl, qle rfl, rfl, ?_⟩)); exact rfl)) | ((with_reducible first | apply rpN | apply drN); first | ((with_reducible apply qAb); exact tyOk rfl; (iterate 5 exact rfl)) | ((with_reducible apply qBm); exact tyOk rfl; (iterate 4 exact rfl); exact qle rfl)) | ((with_reducible apply qA9); exact rfl; exact rfl))
          (with_reducible apply qAz); (focus (repeat' (first | (with_reducible apply qAw) | (with_reducible apply qAr) | ((with_reducible apply qAB); exact rfl) | ((with_reducible apply qAA); exact rfl; exact rfl; exact tyOk rfl; exact rfl; exact rfl)))); exact rfl; refine SubD.of_eq ?_
          rfl
        · repeat (first | (with_reducible first | apply qAj | apply qAh | apply qAi | apply qAg | apply qA5 | apply qBd | apply qBa | apply qBc | apply qAu | apply qAy | apply qAm) | ((with_reducible apply qBh); (first | kernel_rfl | exact rfl)) | ((with_reducible first | apply rp | apply dr); first | ((with_reducible apply qAP); (iterate 3 exact rfl); exact (t1)) | ((with_reducible first | apply qAd | apply qAa); (conv => lhs; whnf)) | ((with_reducible first | apply qAc | apply qAl | apply qAU) <;> first | ((with_reducible apply tyOk); exact rfl) | exact rfl | exact qle rfl | decide) | ((with_reducible apply qAL); exact tyOk rfl; (iterate 3 exact rfl); (first | omega | (dsimp only; omega)); decide; exact rfl) | ((with_reducible apply qAT); exact tyOk rfl; exact rfl; exact rfl; (focus repeat' (first | exact rfl | refine ⟨_, _, rfl, rfl, qle rfl, rfl, ?_⟩)); exact rfl)) | ((with_reducible first | apply rpN | apply drN); first | ((with_reducible apply qAb); exact tyOk rfl; (iterate 5 exact rfl)) | ((with_reducible apply qBm); exact tyOk rfl; (iterate 4 exact rfl); exact qle rfl)) | ((with_reducible apply qA9); exact rfl; exact rfl))
          (with_reducible apply qAz); (focus (repeat' (first | (with_reducible apply qAw) | (with_reducible apply qAr) | ((with_reducible apply qAB); exact rfl) | ((with_reducible apply qAA); exact rfl; exact rfl; exact tyOk rfl; exact rfl; exact rfl)))); exact rfl; refine SubD.of_eq ?_
          rfl
        · repeat (first | (with_reducible first | apply qAj | apply qAh | apply qAi | apply qAg | apply qA5 | apply qBd | apply qBa | apply qBc | apply qAu | apply qAy | apply qAm) | ((with_reducible apply qBh); (first | kernel_rfl | exact rfl)) | ((with_reducible first | apply rp | apply dr); first | ((with_reducible apply qAP); (iterate 3 exact rfl); exact (t1)) | ((with_reducible first | apply qAd | apply qAa); (conv => lhs; whnf)) | ((with_reducible first | apply qAc | apply qAl | apply qAU) <;> first | ((with_reducible apply tyOk); exact rfl) | exact rfl | exact qle rfl | decide) | ((with_reducible apply qAL); exact tyOk rfl; (iterate 3 exact rfl); (first | omega | (dsimp only; omega)); decide; exact rfl) | ((with_reducible apply qAT); exact tyOk rfl; exact rfl; exact rfl; (focus repeat' (first | exact rfl | refine ⟨_, _, rfl, rfl, qle rfl, rfl, ?_⟩)); exact rfl)) | ((with_reducible first | apply rpN | apply drN); first | ((with_reducible apply qAb); exact tyOk rfl; (iterate 5 exact rfl)) | ((with_reducible apply qBm); exact tyOk rfl; (iterate 4 exact rfl); exact qle rfl)) | ((with_reducible apply qA9); exact rfl; exact rfl))
          (with_reducible apply qAz); (focus (repeat' (first | (with_reducible apply qAw) | (with_reducible apply qAr) | ((with_reducible apply qAB); exact rfl) | ((with_reducible apply qAA); exact rfl; exact rfl; exact tyOk rfl; exact rfl; exact rfl)))); exact rfl; refine SubD.of_eq ?_
          rfl
        · repeat (first | (with_reducible first | apply qAj | apply qAh | apply qAi | apply qAg | apply qA5 | apply qBd | apply qBa | apply qBc | apply qAu | apply qAy | apply qAm) | ((with_reducible apply qBh); (first | kernel_rfl | exact rfl)) | ((with_reducible first | apply rp | apply dr); first | ((with_reducible apply qAP); (iterate 3 exact rfl); exact (t1)) | ((with_reducible first | apply qAd | apply qAa); (conv => lhs; whnf)) | ((with_reducible first | apply qAc | apply qAl | apply qAU) <;> first | ((with_reducible apply tyOk); exact rfl) | exact rfl | exact qle rfl | decide) | ((with_reducible apply qAL); exact tyOk rfl; (iterate 3 exact rfl); (first | omega | (dsimp only; omega)); decide; exact rfl) | ((with_reducible apply qAT); exact tyOk rfl; exact rfl; exact rfl; (focus repeat' (first | exact rfl | refine ⟨_, _, rfl, rfl, qle rfl, rfl, ?_⟩)); exact rfl)) | ((with_reducible first | apply rpN | apply drN); first | ((with_reducible apply qAb); exact tyOk rfl; (iterate 5 exact rfl)) | ((with_reducible apply qBm); exact tyOk rfl; (iterate 4 exact rfl); exact qle rfl)) | ((with_reducible apply qA9); exact rfl; exact rfl))
          (with_reducible apply qAz); (focus (repeat' (first | (with_reducible apply qAw) | (with_reducible apply qAr) | ((with_reducible apply qAB); exact rfl) | ((with_reducible apply qAA); exact rfl; exact rfl; exact tyOk rfl; exact rfl; exact rfl)))); exact rfl; refine SubD.of_eq ?_
          rfl
end Go.Proofs.YtpaccaojgbfjdaaDoor

