/-
  kinds.Row as a contract. No condition but that the columns and the row may be.
-/
import Derived.Test.YtpaccaojgbfjdaaDoorZK
import Derived.Test.YtpaccaojgbfjdaaDoorZJ
set_option linter.unusedSimpArgs false
set_option linter.unusedVariables false
namespace Go.Proofs.YtpaccaojgbfjdaaDoor
open Go.RowKit
open Go.Lib

def FitC (v : Vl) (c : Cl) : Prop := Gd v ∧ (v.k = c.kind ∨ (v.k = 0 ∧ c.null = true))
structure FitR (row : List Vl) (cols : List Cl) : Prop where
  len : row.length = cols.length
  fit : ∀ (i : Nat) (v : Vl) (c : Cl), row[i]? = some v → cols[i]? = some c → FitC v c
theorem FitR.gd {row : List Vl} {cols : List Cl} (h : FitR row cols) : ∀ v ∈ row, Gd v := fun v hv => by
  obtain ⟨i, hi⟩ := List.getElem?_of_mem hv
  have hlt : i < cols.length := by have := h.len; have := (List.getElem?_eq_some_iff.1 hi).1; omega
  exact (h.fit i v _ hi (List.getElem?_eq_getElem hlt)).1
set_option maxHeartbeats 2000000 in
theorem fits_row_pc (row : List Vl) (cols : List Cl) (hc : ColsOk cols) (h : FitR row cols) : PC Tryd.prog 67 [qBx row, qAW cols] (iD 0) := by
  have c1 := qEJ cols hc
  have hl5 := hc.len
  have hlen := h.len
  refine qAs Tryd.func67 rfl (by kernel_rfl) mixed (by kernel_rfl) (qle (by kernel_rfl)) Tryd.results67 ?_
  repeat (first | (with_reducible first | apply qAj | apply qAi | apply qAh | apply qAf | apply qAo | apply qAm) | ((with_reducible apply rp); first | ((with_reducible apply qAg); eq_refl; eq_refl; exact (c1); eq_refl) | ((with_reducible apply qAd); (conv => lhs; whnf)) | ((with_reducible apply qAa); (conv => lhs; whnf)) | ((with_reducible apply qAU); eq_refl; eq_refl) | ((with_reducible apply qA7); exact tyOk rfl; eq_refl; eq_refl)) | ((with_reducible apply qAn); eq_refl; (focus (intro hd; (first | (cases hd; done) | (exfalso; simp at hd; omega)))); (intro hd; clear hd)))
  refine qBf (fun m s => ∃ k, k ≤ row.length ∧ m = row.length - k ∧ s = ⟨[(1, .d (qAW cols)), (19, .d (qBx row)), (20, .d (iD row.length)), (21, .d (iD k))], []⟩) _ _ ?_ ⟨0, by omega, rfl, rfl⟩ ?_
  · refine qAw [] (by repeat' (first | exact qAG | (refine qAx rfl (by exact SubA.refl _) ?_))) (kpX rfl) rfl (insS rfl) (insX rfl)
  · rintro m s ⟨k, hk, rfl, rfl⟩
    repeat (first | (with_reducible first | apply qAj | apply qAi | apply qAh | apply qAf) | ((with_reducible apply rp); ((with_reducible apply qAN); eq_refl; eq_refl)))
    refine qAn rfl (fun hd => ?_) (fun hd => ?_)
    · have hlt : k < row.length := by simp at hd; omega
      clear hd
      obtain ⟨v, hv⟩ : ∃ v, row[k]? = some v := ⟨_, List.getElem?_eq_getElem hlt⟩
      obtain ⟨c, hcc⟩ : ∃ c, cols[k]? = some c := ⟨_, List.getElem?_eq_getElem (by omega)⟩
      have hv2 : (row.map Vl.cs)[k]? = some v.cs := by rw [List.getElem?_map, hv]; rfl
      have hc2 : (cols.map Cl.cs)[k]? = some c.cs := by rw [List.getElem?_map, hcc]; rfl
      obtain ⟨zg, hfit⟩ := h.fit k v c hv hcc
      have v1 := qEj v (Nat.le_trans zg.size (by omega))
      rw [zg.chk] at v1
      have q1 : (v.k == 0 && !c.null) = false := by
        rw [Bool.and_eq_false_iff]
        rcases hfit with hf | ⟨_, hf⟩
        · have := hc.kind c (List.mem_of_getElem? hcc)
          exact .inl (beq_eq_false_iff_ne.2 (by omega))
        · exact .inr (by rw [hf]; rfl)
      have q2 : (v.k != 0 && v.k != (c.kind : Int)) = false := by
        rw [Bool.and_eq_false_iff]
        rcases hfit with hf | ⟨hf, _⟩
        · exact .inr (by rw [hf]; simp)
        · exact .inl (by rw [hf]; rfl)
      clear zg hfit c1
      obtain ⟨vk, vn, vb, vt⟩ := v
      obtain ⟨cn, ck, cb⟩ := c
      unfold Vl.cs at *
      unfold Cl.cs at hc2
      dsimp only at *
      repeat (first | (with_reducible first | apply qAj | apply qAi | apply qAh | apply qAf | apply qAo | apply qAm) | ((with_reducible apply rp); first | ((with_reducible apply qAg); eq_refl; eq_refl; exact (v1); eq_refl) | ((with_reducible apply qAd); (conv => lhs; whnf)) | ((with_reducible apply qAa); (conv => lhs; whnf)) | ((with_reducible apply qAl); exact tyOk rfl; (iterate 3 eq_refl); exact qle rfl; eq_refl) | ((with_reducible apply qAE); exact tyOk rfl; eq_refl; eq_refl; assumption; eq_refl) | ((with_reducible apply qAH); exact tyOk rfl; eq_refl; exact tyOk rfl; (iterate 4 eq_refl); (simp only [List.length_map, List.length_append, List.length_cons, List.length_nil] at *; omega)) | ((with_reducible apply qAU); eq_refl; eq_refl)) | ((with_reducible apply rp1); ((with_reducible apply qAk); exact tyOk rfl; eq_refl)) | ((with_reducible apply rpN); ((with_reducible apply qAb); exact tyOk rfl; (iterate 5 eq_refl))))
      refine qAn rfl (fun hd => absurd hd (by decide)) (fun _ => ?_)
      repeat (first | (with_reducible first | apply qAj | apply qAi | apply qAh | apply qAf | apply qAo | apply qAm) | ((first | (with_reducible apply rp) | ((with_reducible apply rpG); eq_refl; exact qAT rfl; (focus repeat' (first | exact trivial | exact id | apply And.intro)); intro zg; have zh := zg; (try simp only [zs1, zs2, zs3, zs4] at zg))); first | ((with_reducible first | apply qAd | apply qAa); (conv => lhs; whnf)) | ((with_reducible first | apply qAM | apply qAc | apply qAe | apply qAr | apply qAZ) <;> first | ((with_reducible apply tyOk); eq_refl) | eq_refl | exact id | decide) | ((with_reducible apply qBp); exact tyOk rfl; eq_refl; eq_refl; assumption; eq_refl) | ((with_reducible apply qAH); exact tyOk rfl; eq_refl; exact tyOk rfl; (iterate 4 eq_refl); (simp only [List.length_map, List.length_append, List.length_cons, List.length_nil] at *; omega))))
      refine qAn rfl (fun hd => absurd (q1.symm.trans hd) (by decide)) (fun hd => ?_)
      clear hd
      repeat (first | (with_reducible first | apply qAj | apply qAf | apply qA4) | ((with_reducible apply qBg); (first | kernel_rfl | eq_refl)) | ((first | (with_reducible apply dr) | ((with_reducible apply drG); eq_refl; exact qAT rfl; (focus repeat' (first | exact trivial | exact id | apply And.intro)); intro zg; have zh := zg; (try simp only [zs1, zs2, zs3, zs4] at zg))); first | ((with_reducible first | apply qAd | apply qAa); (conv => lhs; whnf)) | ((with_reducible first | apply qAM | apply qAc | apply qAe | apply qAU) <;> first | ((with_reducible apply tyOk); eq_refl) | eq_refl | exact id | decide) | ((with_reducible apply qBp); exact tyOk rfl; eq_refl; eq_refl; assumption; eq_refl) | ((with_reducible apply qAH); exact tyOk rfl; eq_refl; exact tyOk rfl; (iterate 4 eq_refl); (simp only [List.length_map, List.length_append, List.length_cons, List.length_nil] at *; omega))))
      refine qAn rfl (fun hd => absurd (q2.symm.trans hd) (by decide)) (fun hd => ?_)
      clear hd
      repeat (first | (with_reducible first | apply qAi | apply qAh | apply qAf | apply qAF | apply qAm) | ((with_reducible apply rp); first | ((with_reducible apply qAd); (conv => lhs; whnf)) | ((with_reducible apply qAI); eq_refl; eq_refl; omega; omega)))
      refine ⟨_, _, ?_, ?_, k + 1, by omega, rfl, rfl⟩
      · omega
      · refine qAw [] (by repeat' (first | exact qAG | (refine qAx rfl (by exact SubA.refl _) ?_))) (kpX rfl) rfl (insS rfl) (insX rfl)
    · have hke : k = row.length := by simp at hd; omega
      clear hd
      subst hke
      repeat (first | (with_reducible first | apply qAj | apply qAi | apply qAh | apply qAf | apply qA5 | apply qA9 | apply qA8 | apply qAu | apply qAz) | ((with_reducible apply rp); ((with_reducible apply qAa); (conv => lhs; whnf))))
      (with_reducible apply qAA); (focus (repeat' (first | (with_reducible apply qAv) | (with_reducible apply qAq) | ((with_reducible apply qAD); eq_refl)))); eq_refl; refine SubD.of_eq ?_
      rfl
theorem qFs (row : List Vl) (cols : List Cl) (hc : ColsOk cols) (h : FitR row cols) : PC Tryd.prog 40 [qBx row, qAW cols] (iD 0) := by
  have c1 := fits_row_pc row cols hc h
  refine qAs Tryd.func40 rfl (by kernel_rfl) mixed (by kernel_rfl) (qle (by kernel_rfl)) Tryd.results40 ?_
  repeat (first | (with_reducible first | apply qAj | apply qAi | apply qAh | apply qAf | apply qAu | apply qAz) | ((with_reducible apply rp); first | ((with_reducible apply qAg); eq_refl; eq_refl; exact (c1); eq_refl) | ((with_reducible apply qAd); (conv => lhs; whnf)) | ((with_reducible apply qAa); (conv => lhs; whnf))))
  (with_reducible apply qAA); (focus (repeat' (first | (with_reducible apply qAv) | (with_reducible apply qAq) | ((with_reducible apply qAD); eq_refl)))); eq_refl; refine SubD.of_eq ?_
  rfl
end Go.Proofs.YtpaccaojgbfjdaaDoor

