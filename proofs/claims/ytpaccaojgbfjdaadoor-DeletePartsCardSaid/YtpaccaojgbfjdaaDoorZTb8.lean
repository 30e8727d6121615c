/-
  chirographkeep: one, both, sameRow, sameRows, tableTells as contracts. No condition.
-/
import Derived.Test.YtpaccaojgbfjdaaDoorZTbP
import Derived.Test.YtpaccaojgbfjdaaDoorZTb6
import Derived.Test.YtpaccaojgbfjdaaDoorZHeapC
set_option linter.unusedSimpArgs false
set_option linter.unusedVariables false
namespace Go.Proofs.YtpaccaojgbfjdaaDoor
open Go.RowKit

theorem one0_pc : PC Tryd.prog 15 [iD 0] (.ag [bD true, bD false]) := by
  refine qAs Tryd.func15 rfl (by kernel_rfl) mixed (by kernel_rfl) (qle (by kernel_rfl)) Tryd.results15 ?_
  repeat (first | (with_reducible first | apply qAj | apply qAh | apply qAi | apply qAg | apply qAu | apply qAy) | ((with_reducible apply rp); first | ((with_reducible apply qAd); (conv => lhs; whnf)) | ((with_reducible apply qAl); exact tyOk rfl; (iterate 3 exact rfl); exact qle rfl; exact rfl) | ((with_reducible apply qAL); exact tyOk rfl; (iterate 3 exact rfl); (dsimp only; omega); decide; exact rfl)) | ((with_reducible apply rp1); ((with_reducible apply qAk); exact tyOk rfl; exact rfl)) | ((with_reducible apply rpN); first | ((with_reducible apply qBk); exact tyOk rfl; exact rfl; exact rfl; (conv => lhs; whnf); exact rfl; exact rfl; exact qle rfl) | ((with_reducible apply qAb); exact tyOk rfl; (iterate 5 exact rfl))))
  (with_reducible apply qAz); (focus (repeat' (first | (with_reducible apply qAw) | (with_reducible apply qAr) | ((with_reducible apply qAA); exact rfl; exact rfl; exact tyOk rfl; exact rfl; exact rfl)))); exact rfl; refine SubD.of_eq ?_
  rfl
theorem one1_pc : PC Tryd.prog 15 [iD 1] (.ag [bD false, bD true]) := by
  refine qAs Tryd.func15 rfl (by kernel_rfl) mixed (by kernel_rfl) (qle (by kernel_rfl)) Tryd.results15 ?_
  repeat (first | (with_reducible first | apply qAj | apply qAh | apply qAi | apply qAg | apply qAu | apply qAy) | ((with_reducible apply rp); first | ((with_reducible apply qAd); (conv => lhs; whnf)) | ((with_reducible apply qAl); exact tyOk rfl; (iterate 3 exact rfl); exact qle rfl; exact rfl) | ((with_reducible apply qAL); exact tyOk rfl; (iterate 3 exact rfl); (dsimp only; omega); decide; exact rfl)) | ((with_reducible apply rp1); ((with_reducible apply qAk); exact tyOk rfl; exact rfl)) | ((with_reducible apply rpN); first | ((with_reducible apply qBk); exact tyOk rfl; exact rfl; exact rfl; (conv => lhs; whnf); exact rfl; exact rfl; exact qle rfl) | ((with_reducible apply qAb); exact tyOk rfl; (iterate 5 exact rfl))))
  (with_reducible apply qAz); (focus (repeat' (first | (with_reducible apply qAw) | (with_reducible apply qAr) | ((with_reducible apply qAA); exact rfl; exact rfl; exact tyOk rfl; exact rfl; exact rfl)))); exact rfl; refine SubD.of_eq ?_
  rfl
theorem bothD_pc : PC Tryd.prog 31 [] (.ag [bD true, bD true]) := by
  refine qAs Tryd.func31 rfl (by kernel_rfl) mixed (by kernel_rfl) (qle (by kernel_rfl)) Tryd.results31 ?_
  repeat (first | (with_reducible first | apply qAj | apply qAh | apply qAi | apply qAg | apply qAu | apply qAy) | ((with_reducible apply rp); ((with_reducible apply qF3); exact tyOk rfl; exact rfl; (focus repeat' (first | exact pv_nil | (apply pv_cons; (conv => lhs; whnf); exact rfl))); exact rfl; exact rfl)) | ((with_reducible apply rp1); ((with_reducible apply qAk); exact tyOk rfl; exact rfl)) | ((with_reducible apply rpN); ((with_reducible apply qAb); exact tyOk rfl; (iterate 5 exact rfl))))
  (with_reducible apply qAz); (focus (repeat' (first | (with_reducible apply qAw) | (with_reducible apply qAr) | ((with_reducible apply qAA); exact rfl; exact rfl; exact tyOk rfl; exact rfl; exact rfl)))); exact rfl; refine SubD.of_eq ?_
  rfl
set_option maxHeartbeats 2000000 in
theorem sameRow_pc (l : List Vl) (hl : l.length ≤ 4611686018427387904) : PC Tryd.prog 45 [qBz l, qBz l] (bD true) := by
  refine qAs Tryd.func45 rfl (by kernel_rfl) mixed (by kernel_rfl) (qle (by kernel_rfl)) Tryd.results45 ?_
  repeat (first | (with_reducible first | apply qAj | apply qAh | apply qAi | apply qAg) | ((with_reducible apply rp); first | ((with_reducible apply qAd); (conv => lhs; whnf)) | ((with_reducible apply qAa); (conv => lhs; whnf)) | ((with_reducible apply qAV); exact rfl; exact rfl) | ((with_reducible apply qA3); exact tyOk rfl; exact rfl; exact rfl)))
  refine qAo rfl (fun hd => absurd hd (by simp)) (fun hd => ?_)
  clear hd
  repeat (first | (with_reducible first | apply qAj | apply qAh | apply qAi | apply qAg | apply qAq | apply qAm) | ((with_reducible apply rp); first | ((with_reducible apply qAd); (conv => lhs; whnf)) | ((with_reducible apply qA3); exact tyOk rfl; exact rfl; exact rfl)))
  refine qBn (fun m s => ∃ k, k ≤ l.length ∧ m = l.length - k ∧ s = ⟨[(0, .d (qBz l)), (1, .d (qBz l)), (12, .d (iD l.length)), (13, .d (iD k))], []⟩) _ _ ?_ ⟨0, by omega, rfl, rfl⟩ ?_
  · refine qAx [] (by repeat' (first | exact qAI | (refine qAD rfl (by exact SubA.refl _) ?_))) (by repeat' exact trivial) rfl (by repeat' (first | exact trivial | refine And.intro ?_ ?_)) (by repeat' (first | exact trivial | refine And.intro ?_ ?_))
  · rintro m s ⟨k, hk, rfl, rfl⟩
    repeat (first | (with_reducible first | apply qAj | apply qAh | apply qAi | apply qAg) | ((with_reducible apply rp); ((with_reducible apply qAU); exact rfl; exact rfl)))
    refine qAo rfl (fun hd => ?_) (fun hd => ?_)
    · have hlt : k < l.length := by simp at hd; omega
      clear hd
      obtain ⟨v, hv⟩ : ∃ v, l[k]? = some v := ⟨_, List.getElem?_eq_getElem hlt⟩
      have hv2 : (l.map Vl.cs)[k]? = some v.cs := by rw [List.getElem?_map, hv]; rfl
      obtain ⟨vk, vn, vb, vt⟩ := v
      unfold Vl.cs at hv2
      dsimp only at hv2
      repeat (first | (with_reducible first | apply qAj | apply qAh | apply qAi | apply qAg | apply qA5 | apply qAq | apply qAm) | ((with_reducible apply qBh); (first | kernel_rfl | exact rfl)) | ((with_reducible first | apply rp | apply dr); first | ((with_reducible first | apply qAd | apply qAa); (conv => lhs; whnf)) | ((with_reducible apply qAG); exact tyOk rfl; exact rfl; exact rfl; assumption; exact rfl) | ((with_reducible apply qAM); exact tyOk rfl; exact rfl; exact tyOk rfl; (iterate 4 exact rfl); (simp only [List.length_map, List.length_append, List.length_cons, List.length_nil] at *; omega)) | ((with_reducible apply qEq); exact rfl; exact rfl; exact tgOk rfl; exact rfl)))
      refine qAo rfl (fun hd => absurd hd (by simp)) (fun hd => ?_)
      clear hd
      repeat (first | (with_reducible first | apply qAh | apply qAi | apply qAg | apply qAF | apply qAm) | ((with_reducible apply rp); first | ((with_reducible apply qAd); (conv => lhs; whnf)) | ((with_reducible apply qAJ); exact rfl; exact rfl; omega; omega)))
      refine ⟨_, _, ?_, ?_, k + 1, by omega, rfl, rfl⟩
      · omega
      · refine qAx [] (by repeat' (first | exact qAI | (refine qAD rfl (by exact SubA.refl _) ?_))) (by repeat' exact trivial) rfl (by repeat' (first | exact trivial | refine And.intro ?_ ?_)) (by repeat' (first | exact trivial | refine And.intro ?_ ?_))
    · have hke : k = l.length := by simp at hd; omega
      clear hd
      subst hke
      repeat (first | (with_reducible first | apply qAj | apply qAh | apply qAi | apply qAg | apply qBd | apply qBa | apply qBc | apply qAu | apply qAy) | ((with_reducible apply rp); ((with_reducible apply qAa); (conv => lhs; whnf))))
      (with_reducible apply qAz); (focus (repeat' (first | (with_reducible apply qAw) | (with_reducible apply qAr) | ((with_reducible apply qAB); exact rfl)))); exact rfl; refine SubD.of_eq ?_
      rfl
set_option maxHeartbeats 2000000 in
theorem sameRows_pc (l : List (List Vl)) (hl : l.length ≤ 64) (h5 : ∀ r ∈ l, r.length ≤ 5) : PC Tryd.prog 17 [qEP l, qEP l] (bD true) := by
  refine qAs Tryd.func17 rfl (by kernel_rfl) mixed (by kernel_rfl) (qle (by kernel_rfl)) Tryd.results17 ?_
  repeat (first | (with_reducible first | apply qAj | apply qAh | apply qAi | apply qAg) | ((with_reducible apply rp); first | ((with_reducible apply qAd); (conv => lhs; whnf)) | ((with_reducible apply qAa); (conv => lhs; whnf)) | ((with_reducible apply qAV); exact rfl; exact rfl) | ((with_reducible apply qA3); exact tyOk rfl; exact rfl; exact rfl)))
  refine qAo rfl (fun hd => absurd hd (by simp)) (fun hd => ?_)
  clear hd
  repeat (first | (with_reducible first | apply qAj | apply qAh | apply qAi | apply qAg | apply qAq | apply qAm) | ((with_reducible apply rp); first | ((with_reducible apply qAd); (conv => lhs; whnf)) | ((with_reducible apply qA3); exact tyOk rfl; exact rfl; exact rfl)))
  refine qBn (fun m s => ∃ k, k ≤ l.length ∧ m = l.length - k ∧ s = ⟨[(0, .d (qEP l)), (1, .d (qEP l)), (12, .d (iD l.length)), (13, .d (iD k))], []⟩) _ _ ?_ ⟨0, by omega, rfl, rfl⟩ ?_
  · refine qAx [] (by repeat' (first | exact qAI | (refine qAD rfl (by exact SubA.refl _) ?_))) (by repeat' exact trivial) rfl (by repeat' (first | exact trivial | refine And.intro ?_ ?_)) (by repeat' (first | exact trivial | refine And.intro ?_ ?_))
  · rintro m s ⟨k, hk, rfl, rfl⟩
    repeat (first | (with_reducible first | apply qAj | apply qAh | apply qAi | apply qAg) | ((with_reducible apply rp); ((with_reducible apply qAU); exact rfl; exact rfl)))
    refine qAo rfl (fun hd => ?_) (fun hd => ?_)
    · have hlt : k < l.length := by simp at hd; omega
      clear hd
      obtain ⟨r, hr⟩ : ∃ r, l[k]? = some r := ⟨_, List.getElem?_eq_getElem hlt⟩
      have hr2 : (l.map rowC)[k]? = some [qBz r] := by rw [List.getElem?_map, hr]; rfl
      have s1 := sameRow_pc r (by have := h5 r (List.mem_of_getElem? hr); omega)
      repeat (first | (with_reducible first | apply qAj | apply qAh | apply qAi | apply qAg | apply qA5 | apply qAq | apply qAm) | ((with_reducible apply qBh); (first | kernel_rfl | exact rfl)) | ((with_reducible first | apply rp | apply dr); first | ((with_reducible apply qAf); exact rfl; exact rfl; exact (s1); exact rfl) | ((with_reducible first | apply qAd | apply qAa); (conv => lhs; whnf)) | ((with_reducible apply qBB); exact tyOk rfl; exact rfl; exact rfl; assumption; exact rfl) | ((with_reducible apply qAM); exact tyOk rfl; exact rfl; exact tyOk rfl; (iterate 4 exact rfl); (simp only [List.length_map, List.length_append, List.length_cons, List.length_nil] at *; omega)) | ((with_reducible apply qAX); exact rfl)))
      refine qAo rfl (fun hd => (by cases hd)) (fun hd => ?_)
      clear hd
      repeat (first | (with_reducible first | apply qAh | apply qAi | apply qAg | apply qAF | apply qAm) | ((with_reducible apply rp); first | ((with_reducible apply qAd); (conv => lhs; whnf)) | ((with_reducible apply qAJ); exact rfl; exact rfl; omega; omega)))
      refine ⟨_, _, ?_, ?_, k + 1, by omega, rfl, rfl⟩
      · omega
      · refine qAx [] (by repeat' (first | exact qAI | (refine qAD rfl (by exact SubA.refl _) ?_))) (by repeat' exact trivial) rfl (by repeat' (first | exact trivial | refine And.intro ?_ ?_)) (by repeat' (first | exact trivial | refine And.intro ?_ ?_))
    · have hke : k = l.length := by simp at hd; omega
      clear hd
      subst hke
      repeat (first | (with_reducible first | apply qAj | apply qAh | apply qAi | apply qAg | apply qBd | apply qBa | apply qBc | apply qAu | apply qAy) | ((with_reducible apply rp); ((with_reducible apply qAa); (conv => lhs; whnf))))
      (with_reducible apply qAz); (focus (repeat' (first | (with_reducible apply qAw) | (with_reducible apply qAr) | ((with_reducible apply qAB); exact rfl)))); exact rfl; refine SubD.of_eq ?_
      rfl
theorem tableTells_pc : PC Tryd.prog 13 [] (bD true) := by
  have c1 : PC Tryd.prog 35 [.nl] (qAY (qDs [])) := (cols_pc []).args (qBC.cons (SubD.nil 4) (fun _ => rfl) qBC.nil)
  have hc := colsF_ok []
  have hk : ∃ n l, qDs [] = ⟨n, 2, false⟩ :: l := ⟨_, _, rfl⟩
  have hr : FitR [numV 4] (qDs []) := by
    refine ⟨rfl, fun i v c hv hcc => ?_⟩
    cases i with
    | zero =>
      injection hv with hv
      injection hcc with hcc
      subst hv hcc
      exact ⟨.int 4, .inl rfl⟩
    | succ i => cases hv
  have t0 := tbN_ok (n := { data := #[116] }) (by decide) hc hk
  have i1 := insert_sub (tbN_sub { data := #[116] } (qDs [])) t0 1 (by omega) [numV 4] hr
  have i1 : PC Tryd.prog 12 [.ag (tbNl { data := #[116] } (qDs [])), iD 1, qBz [numV 4]] (.tu [.ag ((tbN { data := #[116] } (qDs [])).put 1 0 [numV 4]).cs, iD 0]) := i1
  have t1 := t0.put (i := 1) (n := 0) (r := [numV 4]) hr (by omega) ((tbN_keys _ _ 4).not (by decide) 1)
  have r1 := rows_pc _ t1 true true
  have r1 : PC Tryd.prog 14 [.ag ((tbN { data := #[116] } (qDs [])).put 1 0 [numV 4]).cs, .ag [bD true, bD true]] (.tu [.sl 1 [[.sl 4 [[iD 2, iD 4, qD 0, strD .empty]]]], iD 0]) := r1
  have b1 := bothD_pc
  have hl := Tb.len t1
  unfold tbNl at i1
  generalize ((tbN { data := #[116] } (qDs [])).put 1 0 [numV 4]).cs = cs at *
  generalize qDs [] = cols at *
  clear t0 t1 hc hk hr
  refine qAs Tryd.func13 rfl (by kernel_rfl) mixed (by kernel_rfl) (qle (by kernel_rfl)) Tryd.results13 ?_
  repeat (first | (with_reducible first | apply qAj | apply qAh | apply qAi | apply qAg | apply qA5 | apply qAu | apply qAy) | ((with_reducible apply qBh); (first | kernel_rfl | exact rfl)) | ((first | (with_reducible first | apply rp | apply dr) | ((with_reducible apply rpG); exact rfl; exact qAZ rfl; (focus repeat' (first | exact trivial | exact fun h => h | refine And.intro ?_ ?_)); intro hgd; have hgd0 := hgd; (try simp only [decide_eq_true_eq, Bool.and_eq_true, Bool.not_eq_true', beq_iff_eq] at hgd))); first | ((with_reducible apply qAP); (iterate 3 exact rfl); exact (c1)) | ((with_reducible apply qAP); (iterate 3 exact rfl); exact (r1)) | ((with_reducible apply qAf); exact rfl; exact rfl; exact (b1); exact rfl) | (exact qA0 (tyOk rfl) rfl rfl rfl hl) | ((with_reducible first | apply qAd | apply qAa); (conv => lhs; whnf)) | ((with_reducible first | apply qAQ | apply qAc | apply qBB | apply qAt | apply qAv | apply qA3) <;> first | ((with_reducible apply tyOk); exact rfl) | exact rfl | exact fun h => h | decide) | ((with_reducible apply qAM); exact tyOk rfl; exact rfl; exact tyOk rfl; (iterate 4 exact rfl); (dsimp only; simp only [List.length_map, List.length_append, List.length_cons, List.length_nil] at *; omega)) | ((with_reducible apply qAT); exact tyOk rfl; exact rfl; exact rfl; (focus repeat' (first | exact rfl | refine ⟨_, _, rfl, rfl, qle rfl, rfl, ?_⟩)); exact rfl)) | ((with_reducible apply rp1); first | ((with_reducible apply does_call1); (iterate 3 exact rfl); exact (i1)) | ((with_reducible apply qAk); exact tyOk rfl; exact rfl) | ((with_reducible apply qA6); exact tyOk rfl; exact rfl; exact tyOk rfl; exact rfl; exact rfl; (focus repeat' (first | exact trivial | refine And.intro rfl (And.intro rfl ?_))); decide; decide; exact rfl)) | ((with_reducible apply rpN); (exact qAb (tyOk rfl) rfl rfl rfl hl hl)))
  (with_reducible apply qAz); (focus (repeat' (first | (with_reducible apply qAw) | (with_reducible apply qAr) | ((with_reducible apply qAB); exact rfl)))); exact rfl; refine SubD.of_eq ?_
  rfl
end Go.Proofs.YtpaccaojgbfjdaaDoor

