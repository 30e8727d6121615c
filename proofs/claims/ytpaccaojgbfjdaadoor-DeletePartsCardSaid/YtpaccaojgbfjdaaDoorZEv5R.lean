/-
  kinds.Row as a contract. No condition but that the columns and the row may be.
-/
import Derived.Test.YtpaccaojgbfjdaaDoorZK
import Derived.Test.YtpaccaojgbfjdaaDoorZSomeP
set_option linter.unusedSimpArgs false
set_option linter.unusedVariables false
namespace Go.Proofs.YtpaccaojgbfjdaaDoor
open Go.RowKit
open Go.Lib

def FitC (v : Vl) (c : Cl) : Prop := Gd v ∧ (v.k = c.kind ∨ (v.k = 0 ∧ c.null = true))
structure FitR (row : List Vl) (cols : List Cl) : Prop where
  len : row.length = cols.length
  fit : ∀ (i : Nat) (v : Vl) (c : Cl), row[i]? = some v → cols[i]? = some c → FitC v c
theorem FitR.gd {row : List Vl} {cols : List Cl} (h : FitR row cols) : ∀ v ∈ row, Gd v := fun v hv => by
  obtain ⟨i, hi⟩ := List.getElem?_of_mem hv
  have hlt : i < cols.length := by have := h.len; have := (List.getElem?_eq_some_iff.1 hi).1; omega
  exact (h.fit i v _ hi (List.getElem?_eq_getElem hlt)).1
set_option maxHeartbeats 2000000 in
theorem fits_row_pc (row : List Vl) (cols : List Cl) (hc : ColsOk cols) (h : FitR row cols) : PC Tryd.prog 67 [qBz row, qAY cols] (iD 0) := by
  have c1 := qDQ cols hc
  have hl5 := hc.len
  have hlen := h.len
  refine qAs Tryd.func67 rfl (by kernel_rfl) mixed (by kernel_rfl) (qle (by kernel_rfl)) Tryd.results67 ?_
  repeat (first | (with_reducible first | apply qAj | apply qAh | apply qAi | apply qAg | apply qAq | apply qAm) | ((with_reducible apply rp); first | ((with_reducible apply qAf); exact rfl; exact rfl; exact (c1); exact rfl) | ((with_reducible apply qAd); (conv => lhs; whnf)) | ((with_reducible apply qAa); (conv => lhs; whnf)) | ((with_reducible apply qAV); exact rfl; exact rfl) | ((with_reducible apply qA3); exact tyOk rfl; exact rfl; exact rfl)) | ((with_reducible apply qAo); exact rfl; (focus (intro hd; (first | (cases hd; done) | (exfalso; simp at hd; omega)))); (intro hd; clear hd)))
  refine qBn (fun m s => ∃ k, k ≤ row.length ∧ m = row.length - k ∧ s = ⟨[(1, .d (qAY cols)), (19, .d (qBz row)), (20, .d (iD row.length)), (21, .d (iD k))], []⟩) _ _ ?_ ⟨0, by omega, rfl, rfl⟩ ?_
  · refine qAx [] (by repeat' (first | exact qAI | (refine qAD rfl (by exact SubA.refl _) ?_))) (by repeat' exact trivial) rfl (by repeat' (first | exact trivial | refine And.intro ?_ ?_)) (by repeat' (first | exact trivial | refine And.intro ?_ ?_))
  · rintro m s ⟨k, hk, rfl, rfl⟩
    repeat (first | (with_reducible first | apply qAj | apply qAh | apply qAi | apply qAg) | ((with_reducible apply rp); ((with_reducible apply qAU); exact rfl; exact rfl)))
    refine qAo rfl (fun hd => ?_) (fun hd => ?_)
    · have hlt : k < row.length := by simp at hd; omega
      clear hd
      obtain ⟨v, hv⟩ : ∃ v, row[k]? = some v := ⟨_, List.getElem?_eq_getElem hlt⟩
      obtain ⟨c, hcc⟩ : ∃ c, cols[k]? = some c := ⟨_, List.getElem?_eq_getElem (by omega)⟩
      have hv2 : (row.map Vl.cs)[k]? = some v.cs := by rw [List.getElem?_map, hv]; rfl
      have hc2 : (cols.map Cl.cs)[k]? = some c.cs := by rw [List.getElem?_map, hcc]; rfl
      obtain ⟨hgd, hfit⟩ := h.fit k v c hv hcc
      have v1 := qES v (Nat.le_trans hgd.size (by omega))
      rw [hgd.chk] at v1
      have q1 : (v.k == 0 && !c.null) = false := by
        rw [Bool.and_eq_false_iff]
        rcases hfit with hf | ⟨_, hf⟩
        · have := hc.kind c (List.mem_of_getElem? hcc)
          exact .inl (beq_eq_false_iff_ne.2 (by omega))
        · exact .inr (by rw [hf]; rfl)
      have q2 : (v.k != 0 && v.k != (c.kind : Int)) = false := by
        rw [Bool.and_eq_false_iff]
        rcases hfit with hf | ⟨hf, _⟩
        · exact .inr (by rw [hf]; simp)
        · exact .inl (by rw [hf]; rfl)
      clear hgd hfit c1
      obtain ⟨vk, vn, vb, vt⟩ := v
      obtain ⟨cn, ck, cb⟩ := c
      unfold Vl.cs at *
      unfold Cl.cs at hc2
      dsimp only at *
      repeat (first | (with_reducible first | apply qAj | apply qAh | apply qAi | apply qAg | apply qAq | apply qAm) | ((with_reducible apply rp); first | ((with_reducible apply qAf); exact rfl; exact rfl; exact (v1); exact rfl) | ((with_reducible apply qAd); (conv => lhs; whnf)) | ((with_reducible apply qAa); (conv => lhs; whnf)) | ((with_reducible apply qAl); exact tyOk rfl; (iterate 3 exact rfl); exact qle rfl; exact rfl) | ((with_reducible apply qAG); exact tyOk rfl; exact rfl; exact rfl; assumption; exact rfl) | ((with_reducible apply qAM); exact tyOk rfl; exact rfl; exact tyOk rfl; (iterate 4 exact rfl); (simp only [List.length_map, List.length_append, List.length_cons, List.length_nil] at *; omega)) | ((with_reducible apply qAV); exact rfl; exact rfl)) | ((with_reducible apply rp1); ((with_reducible apply qAk); exact tyOk rfl; exact rfl)) | ((with_reducible apply rpN); ((with_reducible apply qAb); exact tyOk rfl; (iterate 5 exact rfl))))
      refine qAo rfl (fun hd => absurd hd (by decide)) (fun _ => ?_)
      repeat (first | (with_reducible first | apply qAj | apply qAh | apply qAi | apply qAg | apply qAq | apply qAm) | ((first | (with_reducible apply rp) | ((with_reducible apply rpG); exact rfl; exact qAZ rfl; (focus repeat' (first | exact trivial | exact fun h => h | refine And.intro ?_ ?_)); intro hgd; have hgd0 := hgd; (try simp only [decide_eq_true_eq, Bool.and_eq_true, Bool.not_eq_true', beq_iff_eq] at hgd))); first | ((with_reducible first | apply qAd | apply qAa); (conv => lhs; whnf)) | ((with_reducible first | apply qAQ | apply qAc | apply qAe | apply qAt | apply qAX) <;> first | ((with_reducible apply tyOk); exact rfl) | exact rfl | exact fun h => h | decide) | ((with_reducible apply qBB); exact tyOk rfl; exact rfl; exact rfl; assumption; exact rfl) | ((with_reducible apply qAM); exact tyOk rfl; exact rfl; exact tyOk rfl; (iterate 4 exact rfl); (simp only [List.length_map, List.length_append, List.length_cons, List.length_nil] at *; omega))))
      refine qAo rfl (fun hd => absurd (q1.symm.trans hd) (by decide)) (fun hd => ?_)
      clear hd
      repeat (first | (with_reducible first | apply qAj | apply qAg | apply qA5) | ((with_reducible apply qBh); (first | kernel_rfl | exact rfl)) | ((first | (with_reducible apply dr) | ((with_reducible apply drG); exact rfl; exact qAZ rfl; (focus repeat' (first | exact trivial | exact fun h => h | refine And.intro ?_ ?_)); intro hgd; have hgd0 := hgd; (try simp only [decide_eq_true_eq, Bool.and_eq_true, Bool.not_eq_true', beq_iff_eq] at hgd))); first | ((with_reducible first | apply qAd | apply qAa); (conv => lhs; whnf)) | ((with_reducible first | apply qAQ | apply qAc | apply qAe | apply qAV) <;> first | ((with_reducible apply tyOk); exact rfl) | exact rfl | exact fun h => h | decide) | ((with_reducible apply qBB); exact tyOk rfl; exact rfl; exact rfl; assumption; exact rfl) | ((with_reducible apply qAM); exact tyOk rfl; exact rfl; exact tyOk rfl; (iterate 4 exact rfl); (simp only [List.length_map, List.length_append, List.length_cons, List.length_nil] at *; omega))))
      refine qAo rfl (fun hd => absurd (q2.symm.trans hd) (by decide)) (fun hd => ?_)
      clear hd
      repeat (first | (with_reducible first | apply qAh | apply qAi | apply qAg | apply qAF | apply qAm) | ((with_reducible apply rp); first | ((with_reducible apply qAd); (conv => lhs; whnf)) | ((with_reducible apply qAJ); exact rfl; exact rfl; omega; omega)))
      refine ⟨_, _, ?_, ?_, k + 1, by omega, rfl, rfl⟩
      · omega
      · refine qAx [] (by repeat' (first | exact qAI | (refine qAD rfl (by exact SubA.refl _) ?_))) (by repeat' exact trivial) rfl (by repeat' (first | exact trivial | refine And.intro ?_ ?_)) (by repeat' (first | exact trivial | refine And.intro ?_ ?_))
    · have hke : k = row.length := by simp at hd; omega
      clear hd
      subst hke
      repeat (first | (with_reducible first | apply qAj | apply qAh | apply qAi | apply qAg | apply qBd | apply qBa | apply qBc | apply qAu | apply qAy) | ((with_reducible apply rp); ((with_reducible apply qAa); (conv => lhs; whnf))))
      (with_reducible apply qAz); (focus (repeat' (first | (with_reducible apply qAw) | (with_reducible apply qAr) | ((with_reducible apply qAB); exact rfl)))); exact rfl; refine SubD.of_eq ?_
      rfl
theorem qFW (row : List Vl) (cols : List Cl) (hc : ColsOk cols) (h : FitR row cols) : PC Tryd.prog 40 [qBz row, qAY cols] (iD 0) := by
  have c1 := fits_row_pc row cols hc h
  refine qAs Tryd.func40 rfl (by kernel_rfl) mixed (by kernel_rfl) (qle (by kernel_rfl)) Tryd.results40 ?_
  repeat (first | (with_reducible first | apply qAj | apply qAh | apply qAi | apply qAg | apply qAu | apply qAy) | ((with_reducible apply rp); first | ((with_reducible apply qAf); exact rfl; exact rfl; exact (c1); exact rfl) | ((with_reducible apply qAd); (conv => lhs; whnf)) | ((with_reducible apply qAa); (conv => lhs; whnf))))
  (with_reducible apply qAz); (focus (repeat' (first | (with_reducible apply qAw) | (with_reducible apply qAr) | ((with_reducible apply qAB); exact rfl)))); exact rfl; refine SubD.of_eq ?_
  rfl
end Go.Proofs.YtpaccaojgbfjdaaDoor

