/-
  chirograph/table: Delete as a contract, where the condition fails in a row.
-/
import Derived.Test.YtpaccaojgbfjdaaDoorZTbE
set_option linter.unusedSimpArgs false
set_option linter.unusedVariables false
namespace Go.Proofs.YtpaccaojgbfjdaaDoor
open Go.RowKit

set_option maxHeartbeats 8000000 in
theorem delete_at (t : Tb) (h : TbOk t) (i : Nat) (hi : i < 2) (x : Ex) (hok : x.ok) (hd : x.deep ≤ 7) (hn : x.num ≤ 40) (hk : Kd (ofF t.cols x) 1) (k0 er : Nat) (c0 : Ce) (h0 : (drF t.a t.b i)[k0]? = some c0) (hf0 : c0.full = true) (he0 : (evF t.cols c0.row x).e = er) (hne : er ≠ 0) (hall : ∀ k c, k < k0 → (drF t.a t.b i)[k]? = some c → c.full = true → (evF t.cols c.row x).e = 0) :
    PC Tryd.prog 27 [.ag t.cs, iD i, .ag x.cs] (.tu [.ag tb0, iD 0, iD er]) := by
  have b1 := qFh t h i hi
  have c1 := cond_pc t.cols h.cols x hok hd hn hk
  have hp : ∀ (c : Ce), c ∈ drF t.a t.b i → c.full = true → PC Tryd.prog 28 [.ag x.cs, qAY t.cols, qBz c.row] (.tu [bD (holF t.cols c.row x), iD (evF t.cols c.row x).e]) := fun (c : Ce) (hc : c ∈ drF t.a t.b i) (hf : c.full = true) => by
    have hfit : CeOk t.cols c := by
      unfold drF at hc
      split at hc
      · exact h.a.ok c hc
      · exact h.b.ok c hc
    exact holds_pc t.cols h.cols x hok hd hn hk c.row (hfit.fit hf)
  have hp0 := hp c0 (List.mem_of_getElem? h0) hf0
  have hy0 : holF t.cols c0.row x = false := by unfold holF; rw [he0, beq_eq_false_iff_ne.2 hne]; rfl
  rw [he0, hy0] at hp0
  have hk04 : k0 < (drF t.a t.b i).length := (List.getElem?_eq_some_iff.1 h0).1
  have hpk : ∀ (k : Nat) (c : Ce), k < k0 → (drF t.a t.b i)[k]? = some c → c.full = true → PC Tryd.prog 28 [.ag x.cs, qAY t.cols, qBz c.row] (.tu [bD (holF t.cols c.row x), iD 0]) := fun k c hkk hc hf => by
    have := hp c (List.mem_of_getElem? hc) hf
    rw [hall k c hkk hc hf] at this
    exact this
  have hspec := fun k hk => qEO (fun r => holF t.cols r x) h hi k hk
  have hdl : (drF t.a t.b i).length = 4 := by
    unfold drF
    split
    · exact h.a.len
    · exact h.b.len
  have hlen := Tb.len h
  have hnone : ∀ c ∈ drF t.a t.b i, c.full = false → c.row = [] := fun c hc hf => by
    unfold drF at hc
    split at hc
    · exact (h.a.ok c hc).none hf
    · exact (h.b.ok c hc).none hf
  have hcol : t.cs[2]? = some (qAY t.cols) := rfl
  have hxl := x.cs_len
  clear h hok hd hn hk hall hp he0 hy0
  generalize drF t.a t.b i = d at *
  generalize hyy : (fun r => holF t.cols r x) = y at *
  have hpy : ∀ (k : Nat) (c : Ce), k < k0 → d[k]? = some c → c.full = true → PC Tryd.prog 28 [.ag x.cs, qAY t.cols, qBz c.row] (.tu [bD (y c.row), iD 0]) := fun k c hkk hc hf => by
    rw [← hyy]
    exact hpk k c hkk hc hf
  clear hpk hyy
  generalize x.cs = xc at *
  generalize t.cols = cols at *
  have hs0 := (hspec 0 (by omega)).1
  have hL0 : delL y d i t.cs 0 = t.cs := rfl
  generalize t.cs = cs at *
  have hcolA : (cs.map A.d)[2]? = some (.d (qAY cols)) := qDz hcol
  refine qAs Tryd.func27 rfl (by kernel_rfl) mixed (by kernel_rfl) (qle (by kernel_rfl)) Tryd.results27 ?_
  repeat (first | (with_reducible first | apply qAj | apply qAh | apply qAi | apply qAg | apply qAq | apply qAm) | ((with_reducible apply rp); first | (exact qA0 (tyOk rfl) rfl rfl rfl hlen) | (exact qA0 (tyOk rfl) rfl rfl rfl hxl) | ((with_reducible apply qAP); (iterate 3 exact rfl); exact (b1)) | (exact qAe (tyOk rfl) rfl rfl rfl hcolA) | ((with_reducible apply qAf); exact rfl; exact rfl; exact (c1); exact rfl) | ((with_reducible apply qAd); (conv => lhs; whnf)) | ((with_reducible apply qAa); (conv => lhs; whnf)) | ((with_reducible apply qAc); exact tyOk rfl; exact rfl; exact rfl; decide; exact rfl) | ((with_reducible apply qAt); exact rfl; exact rfl) | ((with_reducible apply qAV); exact rfl; exact rfl) | ((with_reducible apply qAv); exact rfl; exact rfl)) | ((with_reducible apply rp1); first | ((with_reducible apply qAn); exact rfl; exact rfl) | ((with_reducible apply qAk); exact tyOk rfl; exact rfl)) | ((with_reducible apply rpN); (exact qAb (tyOk rfl) rfl rfl rfl hlen (by rw [List.length_map]))) | ((with_reducible apply qA9); exact rfl; exact rfl) | ((with_reducible apply qBo); exact rfl; exact rfl))
  refine qBn (fun m s => ∃ k, k ≤ k0 ∧ m = 4 - k ∧ s = ⟨[(1, .d (iD i)), (3, .px 3 0), (5, .px 5 0), (6, .px 6 0), (10, .d (iD (delN y d k))), (31, .d (iD k))], [(3, .var 30 ((delL y d i cs k).map .d)), (5, .var 58 (xc.map .d)), (6, .var 30 (tb0.map .d))]⟩) _ _ ?_ ⟨0, by omega, rfl, rfl⟩ ?_
  · refine qAx [] (by repeat' (first | exact qAI | (refine qAD rfl (by exact SubA.refl _) ?_))) (by repeat' (first | exact trivial | exact rfl | exact kb_d rfl | refine And.intro ?_ ?_)) rfl (by repeat' (first | exact trivial | exact qAH _ | exact qAp rfl | refine And.intro ?_ ?_)) (by repeat' (first | exact trivial | exact qAH _ | exact qAp rfl | refine And.intro ?_ ?_))
  · rintro m s ⟨k, hk0, rfl, rfl⟩
    have hk4 : k < 4 := by omega
    repeat (first | (with_reducible first | apply qAj | apply qAh | apply qAi | apply qAg) | ((with_reducible apply rp); ((with_reducible apply qAU); exact rfl; exact rfl)))
    refine qAo rfl (fun hd => ?_) (fun hd => ?_)
    · have hlt4 : k < 4 := by simp at hd; omega
      clear hd
      obtain ⟨c, hcc⟩ : ∃ c, d[k]? = some c := ⟨_, List.getElem?_eq_getElem (by omega)⟩
      have hm := List.mem_of_getElem? hcc
      have hgd : d.getD k ⟨false, []⟩ = c := by rw [List.getD_eq_getElem?_getD, hcc]; rfl
      obtain ⟨q1, q2, q3, _⟩ := hspec k (by omega)
      obtain ⟨q4, q5⟩ := q3 k c (Nat.le_refl _) hcc
      have hns := delN_succ y hcc
      have hnext : delL y d i cs (k + 1) = if goB y c = true then qBI (delL y d i cs k) (3 + i * 8 + k * 2) [bD false, .nl] else delL y d i cs k := by
        conv => lhs; unfold delL
        rw [hgd]
      have hN : delN y d k ≤ 4 := by
        unfold delN
        have := List.length_filter_le (goB y) (d.take k)
        rw [List.length_take] at this
        omega
      generalize delN y d k = cnt at *
      generalize delL y d i cs k = L at *
      have g2 : (L.map A.d)[2]? = some (.d (qAY cols)) := qDz q2
      have g4 : (L.map A.d)[3 + i * 8 + k * 2]? = some (.d (bD c.full)) := qDz q4
      have g5 : (L.map A.d)[3 + i * 8 + k * 2 + 1]? = some (.d (qBz c.row)) := qDz q5
      cases hcf : c.full with
      | true =>
        rw [hcf] at g4
        by_cases hkk : k = k0
        · subst hkk
          rw [h0] at hcc
          injection hcc with hcc
          subst hcc
          have hn2 : ((er : Int) != 0) = true := by simpa using hne
          repeat (first | (with_reducible first | apply qAj | apply qAh | apply qAi | apply qAg | apply qAq | apply qAm) | ((with_reducible apply rp); first | (exact qAe (tyOk rfl) rfl rfl rfl g4) | ((with_reducible apply qAd); (conv => lhs; whnf)) | ((with_reducible apply qAa); (conv => lhs; whnf)) | ((with_reducible apply qAc); exact tyOk rfl; exact rfl; exact rfl; decide; exact rfl) | ((with_reducible apply qAL); exact tyOk rfl; (iterate 3 exact rfl); omega; decide; exact rfl) | ((with_reducible apply qAX); exact rfl) | ((with_reducible apply qBf); exact rfl)))
          refine qAo rfl (fun hc => (by cases hc)) (fun _ => ?_)
          repeat (first | (with_reducible first | apply qAj | apply qAh | apply qAi | apply qAg | apply qA5 | apply qAm) | ((with_reducible apply qBh); (first | kernel_rfl | exact rfl)) | ((with_reducible first | apply rp | apply dr); first | (exact qAe (tyOk rfl) rfl rfl rfl g5) | (exact qAe (tyOk rfl) rfl rfl rfl g2) | (exact qA0 (tyOk rfl) rfl rfl rfl hxl) | ((with_reducible apply qAf); exact rfl; exact rfl; exact (hp0); exact rfl) | ((with_reducible first | apply qAd | apply qAa); (conv => lhs; whnf)) | ((with_reducible first | apply qAc | apply qAV | apply qAv | apply qBf) <;> first | ((with_reducible apply tyOk); exact rfl) | exact rfl | decide)))
          refine qAo rfl (fun _ => ?_) (fun hc => absurd (hn2.symm.trans hc) (by decide))
          repeat (first | (with_reducible first | apply qAj | apply qAh | apply qAi | apply qAg | apply qAu | apply qAS | apply qBe | apply qAy) | ((with_reducible apply rp); first | ((with_reducible apply qAd); (conv => lhs; whnf)) | ((with_reducible apply qAa); (conv => lhs; whnf)) | ((with_reducible apply qAW); exact tyOk rfl; exact rfl; exact rfl)) | ((with_reducible apply rpN); ((with_reducible apply qAb); exact tyOk rfl; (iterate 5 exact rfl))))
          (with_reducible apply qAz); (focus (repeat' (first | (with_reducible apply qAw) | (with_reducible apply qAr) | ((with_reducible apply qAB); exact rfl) | ((with_reducible apply qAA); exact rfl; exact rfl; exact tyOk rfl; exact rfl; exact rfl)))); exact rfl; refine SubD.of_eq ?_
          rfl
        have hp1 := hpy k c (by omega) hcc hcf
        have hgo : goB y c = y c.row := by unfold goB; rw [hcf, Bool.true_and]
        rw [hgo] at hns hnext
        repeat (first | (with_reducible first | apply qAj | apply qAh | apply qAi | apply qAg | apply qA5 | apply qAq | apply qAm) | ((with_reducible apply qBh); (first | kernel_rfl | exact rfl)) | ((with_reducible first | apply rp | apply dr); first | (exact qAe (tyOk rfl) rfl rfl rfl g4) | (exact qAe (tyOk rfl) rfl rfl rfl g5) | (exact qAe (tyOk rfl) rfl rfl rfl g2) | (exact qA0 (tyOk rfl) rfl rfl rfl hxl) | ((with_reducible apply qAf); exact rfl; exact rfl; exact (hp1); exact rfl) | ((with_reducible first | apply qAd | apply qAa); (conv => lhs; whnf)) | ((with_reducible first | apply qAc | apply qAV | apply qAX | apply qAv | apply qBf) <;> first | ((with_reducible apply tyOk); exact rfl) | exact rfl | decide) | ((with_reducible apply qAL); exact tyOk rfl; (iterate 3 exact rfl); omega; decide; exact rfl)) | ((with_reducible apply qA9); exact rfl; exact rfl))
        cases hy : y c.row with
        | true =>
          rw [hy, if_pos rfl] at hns hnext
          refine qAo rfl (fun _ => ?_) (fun hc => (by cases hc))
          repeat (first | (with_reducible first | apply qAj | apply qAh | apply qAi | apply qAg | apply qAF) | ((with_reducible apply rp); first | (exact qBG (z := ((cnt + 1 : Nat) : Int)) rfl rfl (by omega) (by omega) (by omega)) | ((with_reducible apply qAd); (conv => lhs; whnf)) | ((with_reducible apply qAa); (conv => lhs; whnf)) | ((with_reducible apply qAJ); exact rfl; exact rfl; omega; omega) | ((with_reducible apply qAW); exact tyOk rfl; exact rfl; exact rfl) | ((with_reducible apply qBf); exact rfl)) | ((with_reducible apply rpN); (exact qDD (tyOk rfl) rfl rfl rfl rfl (by rw [q1]; simp; omega))))
          refine ⟨_, _, ?_, ?_, k + 1, by omega, rfl, rfl⟩
          · omega
          · rw [hns, hnext]
            refine qAx [] (by repeat' (first | exact qAI | (refine qAD rfl (by exact SubA.refl _) ?_))) (by repeat' (first | exact trivial | exact rfl | exact kb_d rfl | refine And.intro ?_ ?_)) rfl (by repeat' (first | exact trivial | exact qAH _ | exact qAp rfl | refine And.intro ?_ ?_)) (by repeat' (first | exact trivial | exact qAH _ | exact qAp rfl | refine And.intro ?_ ?_))
        | false =>
          rw [hy, if_neg (by decide)] at hns hnext
          refine qAo rfl (fun hc => (by cases hc)) (fun _ => ?_)
          repeat (first | (with_reducible first | apply qAh | apply qAi | apply qAg | apply qAF | apply qAm) | ((with_reducible apply rp); first | ((with_reducible apply qAd); (conv => lhs; whnf)) | ((with_reducible apply qAJ); exact rfl; exact rfl; omega; omega)))
          refine ⟨_, _, ?_, ?_, k + 1, by omega, rfl, rfl⟩
          · omega
          · rw [hns, hnext]
            refine qAx [] (by repeat' (first | exact qAI | (refine qAD rfl (by exact SubA.refl _) ?_))) (by repeat' (first | exact trivial | exact rfl | exact kb_d rfl | refine And.intro ?_ ?_)) rfl (by repeat' (first | exact trivial | exact qAH _ | exact qAp rfl | refine And.intro ?_ ?_)) (by repeat' (first | exact trivial | exact qAH _ | exact qAp rfl | refine And.intro ?_ ?_))
      | false =>
        have hkk : k ≠ k0 := fun e => by
          subst e
          rw [h0] at hcc
          injection hcc with hcc
          subst hcc
          rw [hf0] at hcf
          cases hcf
        rw [hcf] at g4
        have hgo : goB y c = false := by unfold goB; rw [hcf]; rfl
        rw [hgo, if_neg (by decide)] at hns hnext
        repeat (first | (with_reducible first | apply qAj | apply qAh | apply qAi | apply qAg | apply qAq | apply qBd | apply qBa | apply qBc | apply qAm) | ((with_reducible apply rp); first | (exact qAe (tyOk rfl) rfl rfl rfl g4) | ((with_reducible apply qAd); (conv => lhs; whnf)) | ((with_reducible apply qAa); (conv => lhs; whnf)) | ((with_reducible apply qAc); exact tyOk rfl; exact rfl; exact rfl; decide; exact rfl) | ((with_reducible apply qAL); exact tyOk rfl; (iterate 3 exact rfl); omega; decide; exact rfl) | ((with_reducible apply qAJ); exact rfl; exact rfl; omega; omega) | ((with_reducible apply qAX); exact rfl) | ((with_reducible apply qBf); exact rfl)) | ((with_reducible apply qBo); exact rfl; exact rfl))
        refine ⟨_, _, ?_, ?_, k + 1, by omega, rfl, rfl⟩
        · omega
        · rw [hns, hnext]
          refine qAx [] (by repeat' (first | exact qAI | (refine qAD rfl (by exact SubA.refl _) ?_))) (by repeat' (first | exact trivial | exact rfl | exact kb_d rfl | refine And.intro ?_ ?_)) rfl (by repeat' (first | exact trivial | exact qAH _ | exact qAp rfl | refine And.intro ?_ ?_)) (by repeat' (first | exact trivial | exact qAH _ | exact qAp rfl | refine And.intro ?_ ?_))
    · exfalso
      simp at hd
      omega
theorem first_bad (p : Ce → Bool) : ∀ d : List Ce, (∃ c ∈ d, p c = true) → ∃ (k : Nat) (c : Ce), d[k]? = some c ∧ p c = true ∧ ∀ (j : Nat) (e : Ce), j < k → d[j]? = some e → p e = false
  | [], ⟨c, hc, _⟩ => (by cases hc)
  | c :: d, h => by
    cases hp : p c with
    | true => exact ⟨0, c, rfl, hp, fun j e hj => absurd hj (by omega)⟩
    | false =>
      obtain ⟨k, e, h1, h2, h3⟩ := first_bad p d (by
        obtain ⟨e, he, hpe⟩ := h
        rcases List.mem_cons.1 he with rfl | he
        · rw [hp] at hpe; cases hpe
        · exact ⟨e, he, hpe⟩)
      refine ⟨k + 1, e, h1, h2, fun j f hj hf => ?_⟩
      cases j with
      | zero =>
        injection hf with hf
        subst hf
        exact hp
      | succ j => exact h3 j f (by omega) hf
theorem delete_bad (t : Tb) (h : TbOk t) (i : Nat) (hi : i < 2) (x : Ex) (hok : x.ok) (hd : x.deep ≤ 7) (hn : x.num ≤ 40) (hk : Kd (ofF t.cols x) 1) (hb : ∃ c ∈ drF t.a t.b i, c.full = true ∧ (evF t.cols c.row x).e ≠ 0) :
    ∃ er : Nat, er ≠ 0 ∧ PC Tryd.prog 27 [.ag t.cs, iD i, .ag x.cs] (.tu [.ag tb0, iD 0, iD er]) := by
  obtain ⟨k, c, h1, h2, h3⟩ := first_bad (fun c => c.full && !((evF t.cols c.row x).e == 0)) _ (by
    obtain ⟨c, hc, hf, he⟩ := hb
    exact ⟨c, hc, by simp [hf, he]⟩)
  simp only [Bool.and_eq_true, Bool.not_eq_true', beq_eq_false_iff_ne] at h2
  refine ⟨_, h2.2, delete_at t h i hi x hok hd hn hk k _ c h1 h2.1 rfl h2.2 fun j e hj hje hf => ?_⟩
  have := h3 j e hj hje
  simp only [hf, Bool.true_and, Bool.not_eq_false', beq_iff_eq] at this
  exact this
end Go.Proofs.YtpaccaojgbfjdaaDoor

