/-
  lex.Check of a name. No condition but that it is one.
-/
import Derived.Test.YtpaccaojgbfjdaaDoorZEx
import Derived.Test.YtpaccaojgbfjdaaDoorZTl
import Derived.Test.YtpaccaojgbfjdaaDoorZG
import Derived.Test.YtpaccaojgbfjdaaDoorZC
import Derived.Test.YtpaccaojgbfjdaaDoorZVal
set_option linter.unusedSimpArgs false
set_option linter.unusedVariables false
namespace Go.Proofs.YtpaccaojgbfjdaaDoor
open Go.RowKit

section
variable {P : Program} {dst : Option Nat} {ty : TypeId} {e : Operand → A} {β : Bx} {T T' : TypeId} {x y : Operand}
theorem qCC {a b : ByteArray} {c : Bool} (hx : e x = .d (strD a)) (hy : e y = .d (strD b)) (hc : (!(a.toList == b.toList)) = c) : Does P dst (.binOp .neq T x y T') ty e β (.d (bD c)) [] [] := by
  subst hc; exact qFw hx hy
end
theorem small_pc (c : UInt8) : PC Tryd.prog 70 [u8D c] (bD (qGl c)) := by
  have e : qGl c = (decide ((c.toNat : Int) ≥ 97) && decide ((c.toNat : Int) ≤ 122)) := by unfold qGl; congr 1 <;> exact decide_eq_decide.2 (by omega)
  rw [e]
  refine qAs Tryd.func70 rfl (by kernel_rfl) mixed (by kernel_rfl) (qle (by kernel_rfl)) Tryd.results70 ?_
  repeat (first | ((first | (with_reducible apply rpGT) | (with_reducible apply drGT) | (with_reducible apply qCw) | (with_reducible apply qCv)); exact rfl; exact qAZ rfl; (first | exact rfl | assumption | decide); (focus repeat' (first | exact trivial | exact fun h => h | refine And.intro ?_ ?_)); ((first | ((with_reducible first | apply qAd | apply qAa); (conv => lhs; whnf)) | ((with_reducible first | apply qAQ | apply qBL | apply qE5) <;> first | exact rfl | exact fun h => h)); (first | exact qAE _ | exact qBU _ _ | exact qBV _ _ _ | exact qBW _ _ _ _))) | (with_reducible first | apply qAj | apply qAh | apply qAi | apply qAg | apply qAu | apply qAy) | ((first | (with_reducible apply rp) | ((with_reducible apply rpG); exact rfl; exact qAZ rfl; (focus repeat' (first | exact trivial | exact fun h => h | refine And.intro ?_ ?_)); intro hgd; have hgd0 := hgd; (try simp only [decide_eq_true_eq, Bool.and_eq_true, Bool.not_eq_true', beq_iff_eq] at hgd))); first | ((with_reducible first | apply qAd | apply qAa); (conv => lhs; whnf)) | ((with_reducible first | apply qAQ | apply qBL | apply qE5) <;> first | exact rfl | exact fun h => h)))
  (with_reducible apply qAz); (focus (repeat' (first | (with_reducible apply qAw) | (with_reducible apply qAr) | ((with_reducible apply qAB); exact rfl)))); exact rfl; refine SubD.of_eq ?_
  rfl
theorem digit_pc (c : UInt8) : PC Tryd.prog 91 [u8D c] (bD (digitB c)) := by
  have e : digitB c = (decide ((c.toNat : Int) ≥ 48) && decide ((c.toNat : Int) ≤ 57)) := by unfold digitB; congr 1 <;> exact decide_eq_decide.2 (by omega)
  rw [e]
  refine qAs Tryd.func91 rfl (by kernel_rfl) mixed (by kernel_rfl) (qle (by kernel_rfl)) Tryd.results91 ?_
  repeat (first | ((first | (with_reducible apply rpGT) | (with_reducible apply drGT) | (with_reducible apply qCw) | (with_reducible apply qCv)); exact rfl; exact qAZ rfl; (first | exact rfl | assumption | decide); (focus repeat' (first | exact trivial | exact fun h => h | refine And.intro ?_ ?_)); ((first | ((with_reducible first | apply qAd | apply qAa); (conv => lhs; whnf)) | ((with_reducible first | apply qAQ | apply qBL | apply qE5) <;> first | exact rfl | exact fun h => h)); (first | exact qAE _ | exact qBU _ _ | exact qBV _ _ _ | exact qBW _ _ _ _))) | (with_reducible first | apply qAj | apply qAh | apply qAi | apply qAg | apply qAu | apply qAy) | ((first | (with_reducible apply rp) | ((with_reducible apply rpG); exact rfl; exact qAZ rfl; (focus repeat' (first | exact trivial | exact fun h => h | refine And.intro ?_ ?_)); intro hgd; have hgd0 := hgd; (try simp only [decide_eq_true_eq, Bool.and_eq_true, Bool.not_eq_true', beq_iff_eq] at hgd))); first | ((with_reducible first | apply qAd | apply qAa); (conv => lhs; whnf)) | ((with_reducible first | apply qAQ | apply qBL | apply qE5) <;> first | exact rfl | exact fun h => h)))
  (with_reducible apply qAz); (focus (repeat' (first | (with_reducible apply qAw) | (with_reducible apply qAr) | ((with_reducible apply qAB); exact rfl)))); exact rfl; refine SubD.of_eq ?_
  rfl
theorem inName_pc (c : UInt8) : PC Tryd.prog 69 [u8D c] (bD (qGg c)) := by
  have s1 := small_pc c
  have d1 := digit_pc c
  have e : qGg c = ((qGl c || digitB c) || ((c.toNat : Int) == 95)) := by
    unfold qGg
    congr 1
    rw [Bool.eq_iff_iff, beq_iff_eq, beq_iff_eq]
    omega
  rw [e]
  refine qAs Tryd.func69 rfl (by kernel_rfl) mixed (by kernel_rfl) (qle (by kernel_rfl)) Tryd.results69 ?_
  repeat (first | ((first | (with_reducible apply rpGT) | (with_reducible apply drGT) | (with_reducible apply qCw) | (with_reducible apply qCv)); exact rfl; exact qAR rfl; (first | exact rfl | assumption | decide); (focus repeat' (first | exact trivial | exact fun h => h | refine And.intro ?_ ?_)); ((first | ((with_reducible apply qAf); exact rfl; exact rfl; (first | exact (s1) | exact (d1)); exact rfl) | ((with_reducible first | apply qAd | apply qAa); (conv => lhs; whnf)) | ((with_reducible first | apply qAK | apply qAt) <;> first | exact rfl | exact fun h => h)); (first | exact qAE _ | exact qBU _ _ | exact qBV _ _ _ | exact qBW _ _ _ _))) | (with_reducible first | apply qAj | apply qAh | apply qAi | apply qAg | apply qAu | apply qAy) | ((first | (with_reducible apply rp) | ((with_reducible apply rpG); exact rfl; exact qAR rfl; (focus repeat' (first | exact trivial | exact fun h => h | refine And.intro ?_ ?_)); intro hgd; have hgd0 := hgd; (try simp only [decide_eq_true_eq, Bool.and_eq_true, Bool.not_eq_true', beq_iff_eq] at hgd))); first | ((with_reducible apply qAf); exact rfl; exact rfl; (first | exact (s1) | exact (d1)); exact rfl) | ((with_reducible first | apply qAd | apply qAa); (conv => lhs; whnf)) | ((with_reducible first | apply qAK | apply qAt) <;> first | exact rfl | exact fun h => h)))
  (with_reducible apply qAz); (focus (repeat' (first | (with_reducible apply qAw) | (with_reducible apply qAr) | ((with_reducible apply qAB); exact rfl)))); exact rfl; refine SubD.of_eq ?_
  rfl
theorem name_nil {n : ByteArray} (h : qDj n) : (n.toList == (⟨#[]⟩ : ByteArray).toList) = false := by
  rw [beq_eq_false_iff_ne]
  intro e
  rw [ByteArray.toList_eq, ByteArray.toList_eq] at e
  unfold qDj at h
  rw [e] at h
  cases h
theorem name_get {n : ByteArray} (h : qDj n) : ∃ c l, n.data.toList = c :: l ∧ qGl c = true ∧ n.size ≤ 8 ∧ ∀ d ∈ n.data.toList, qGg d = true := by
  have hs : n.size = n.data.toList.length := by rw [Array.length_toList]; rfl
  unfold qDj at h
  cases hn : n.data.toList with
  | nil => rw [hn] at h; cases h
  | cons c l =>
    rw [hn] at h
    unfold nameB at h
    simp only [Bool.and_eq_true, decide_eq_true_eq] at h
    exact ⟨c, l, rfl, h.1.1, by rw [hs, hn]; exact h.1.2, List.all_eq_true.1 h.2⟩
set_option maxHeartbeats 1000000 in
theorem all_px (s : ByteArray) (h : qDj s) : PX Tryd.prog 68 [.d (strD s), .fn (.func 69) [] []] [] [] (bD true) [] [] := by
  obtain ⟨_, _, _, _, h8, hall⟩ := name_get h
  have hn := name_nil h
  refine qBg Tryd.func68 rfl (by kernel_rfl) mixed (by kernel_rfl) (qle (by kernel_rfl)) Tryd.results68 rfl ?_
  repeat (first | ((first | (with_reducible apply rpGT) | (with_reducible apply drGT) | (with_reducible apply qCw) | (with_reducible apply qCv)); exact rfl; (first | exact qAZ rfl | exact qAR rfl | exact qBt rfl | exact qBu rfl); (first | exact rfl | assumption | decide); (focus repeat' (first | exact trivial | exact fun h => h | refine And.intro ?_ ?_ | (intro h; (first | exact h | (simp only [Bool.and_eq_true] at h; (first | exact h.1 | exact h.1.1 | exact h.1.1.1 | exact h.2)) | (rw [h]; rfl) | (rw [hgd0, h]; rfl) | simp_all)))); ((first | ((with_reducible first | apply qAd | apply qAa); (conv => lhs; whnf)) | ((with_reducible apply qB4); exact tyOk rfl; exact rfl; exact rfl)); (first | exact qAE _ | exact qBU _ _ | exact qBV _ _ _ | exact qBW _ _ _ _))) | (with_reducible first | apply qAj | apply qAh | apply qAi | apply qAg | apply qAq) | ((with_reducible apply rp); first | ((with_reducible apply qAd); (conv => lhs; whnf)) | ((with_reducible apply qAa); (conv => lhs; whnf)) | ((with_reducible apply qB4); exact tyOk rfl; exact rfl; exact rfl)))
  refine qBn (fun m st => ∃ k, k ≤ s.size ∧ m = s.size - k ∧ st = ⟨[(0, .d (strD s)), (1, .fn (.func 69) [] []), (7, .d (iD s.size)), (8, .d (iD k))], []⟩) _ _ ?_ ⟨0, by omega, rfl, rfl⟩ ?_
  · refine qAx [] (by repeat' (first | exact qAI | (refine qAD rfl (by exact SubA.refl _) ?_))) (by repeat' exact trivial) rfl (by repeat' (first | exact trivial | refine And.intro ?_ ?_)) (by repeat' (first | exact trivial | refine And.intro ?_ ?_))
  · rintro m st ⟨k, hk, rfl, rfl⟩
    repeat (first | ((first | (with_reducible apply rpGT) | (with_reducible apply drGT) | (with_reducible apply qCw) | (with_reducible apply qCv)); exact rfl; (first | exact qAZ rfl | exact qAR rfl | exact qBt rfl | exact qBu rfl); (first | exact rfl | assumption | decide); (focus repeat' (first | exact trivial | exact fun h => h | refine And.intro ?_ ?_ | (intro h; (first | exact h | (simp only [Bool.and_eq_true] at h; (first | exact h.1 | exact h.1.1 | exact h.1.1.1 | exact h.2)) | (rw [h]; rfl) | (rw [hgd0, h]; rfl) | simp_all)))); ((first | ((with_reducible apply qAU); exact rfl; exact rfl)); (first | exact qAE _ | exact qBU _ _ | exact qBV _ _ _ | exact qBW _ _ _ _))) | (with_reducible first | apply qAj | apply qAh | apply qAi | apply qAg) | ((with_reducible apply rp); ((with_reducible apply qAU); exact rfl; exact rfl)))
    refine qAo rfl (fun hd => ?_) (fun hd => ?_)
    · have hlt : k < s.size := by simp at hd; omega
      clear hd
      have hb : s.data[k]? = some s.data[k] := Array.getElem?_eq_getElem hlt
      have hin := hall s.data[k] (Array.getElem_mem_toList hlt)
      have p1 := inName_pc s.data[k]
      rw [hin] at p1
      generalize s.data[k] = c at *
      repeat (first | ((first | (with_reducible apply rpGT) | (with_reducible apply drGT) | (with_reducible apply qCw) | (with_reducible apply qCv)); exact rfl; (first | exact qAZ rfl | exact qAR rfl | exact qBt rfl | exact qBu rfl); (first | exact rfl | assumption | decide); (focus repeat' (first | exact trivial | exact fun h => h | refine And.intro ?_ ?_ | (intro h; (first | exact h | (simp only [Bool.and_eq_true] at h; (first | exact h.1 | exact h.1.1 | exact h.1.1.1 | exact h.2)) | (rw [h]; rfl) | (rw [hgd0, h]; rfl) | simp_all)))); ((first | ((with_reducible apply qAf); exact rfl; exact rfl; exact (p1); exact rfl) | ((with_reducible first | apply qAd | apply qAa); (conv => lhs; whnf)) | ((with_reducible apply qAX); exact rfl) | ((with_reducible apply qCL); exact tyOk rfl; (iterate 4 exact rfl); assumption)); (first | exact qAE _ | exact qBU _ _ | exact qBV _ _ _ | exact qBW _ _ _ _))) | (with_reducible first | apply qAj | apply qAh | apply qAi | apply qAg | apply qAq | apply qAm) | ((with_reducible apply rp); first | ((with_reducible apply qAf); exact rfl; exact rfl; exact (p1); exact rfl) | ((with_reducible apply qAd); (conv => lhs; whnf)) | ((with_reducible apply qAa); (conv => lhs; whnf)) | ((with_reducible apply qAX); exact rfl) | ((with_reducible apply qCL); exact tyOk rfl; (iterate 4 exact rfl); assumption)))
      refine qAo rfl (fun hd => (by cases hd)) (fun hd => ?_)
      clear hd
      repeat (first | ((first | (with_reducible apply rpGT) | (with_reducible apply drGT) | (with_reducible apply qCw) | (with_reducible apply qCv)); exact rfl; (first | exact qAZ rfl | exact qAR rfl | exact qBt rfl | exact qBu rfl); (first | exact rfl | assumption | decide); (focus repeat' (first | exact trivial | exact fun h => h | refine And.intro ?_ ?_ | (intro h; (first | exact h | (simp only [Bool.and_eq_true] at h; (first | exact h.1 | exact h.1.1 | exact h.1.1.1 | exact h.2)) | (rw [h]; rfl) | (rw [hgd0, h]; rfl) | simp_all)))); ((first | ((with_reducible apply qAd); (conv => lhs; whnf)) | ((with_reducible apply qAJ); exact rfl; exact rfl; omega; omega)); (first | exact qAE _ | exact qBU _ _ | exact qBV _ _ _ | exact qBW _ _ _ _))) | (with_reducible first | apply qAh | apply qAi | apply qAg | apply qAF | apply qAm) | ((with_reducible apply rp); first | ((with_reducible apply qAd); (conv => lhs; whnf)) | ((with_reducible apply qAJ); exact rfl; exact rfl; omega; omega)))
      refine ⟨_, _, ?_, ?_, k + 1, by omega, rfl, rfl⟩
      · omega
      · refine qAx [] (by repeat' (first | exact qAI | (refine qAD rfl (by exact SubA.refl _) ?_))) (by repeat' exact trivial) rfl (by repeat' (first | exact trivial | refine And.intro ?_ ?_)) (by repeat' (first | exact trivial | refine And.intro ?_ ?_))
    · have hke : k = s.size := by simp at hd; omega
      clear hd
      subst hke
      repeat (first | ((first | (with_reducible apply rpGT) | (with_reducible apply drGT) | (with_reducible apply qCw) | (with_reducible apply qCv)); exact rfl; (first | exact qAZ rfl | exact qAR rfl | exact qBt rfl | exact qBu rfl); (first | exact rfl | assumption | decide); (focus repeat' (first | exact trivial | exact fun h => h | refine And.intro ?_ ?_ | (intro h; (first | exact h | (simp only [Bool.and_eq_true] at h; (first | exact h.1 | exact h.1.1 | exact h.1.1.1 | exact h.2)) | (rw [h]; rfl) | (rw [hgd0, h]; rfl) | simp_all)))); ((first | (exact qCC (c := true) rfl rfl (by rw [hn]; rfl)) | ((with_reducible first | apply qAd | apply qAa); (conv => lhs; whnf))); (first | exact qAE _ | exact qBU _ _ | exact qBV _ _ _ | exact qBW _ _ _ _))) | (with_reducible first | apply qAj | apply qAh | apply qAi | apply qAg | apply qBd | apply qBa | apply qBc | apply qAu | apply qBK) | ((with_reducible apply rp); first | (exact qCC (c := true) rfl rfl (by rw [hn]; rfl)) | ((with_reducible apply qAd); (conv => lhs; whnf)) | ((with_reducible apply qAa); (conv => lhs; whnf))))
      (with_reducible apply qBj (l := [])); (focus (repeat' (first | (with_reducible apply qAw) | (with_reducible apply qAr) | ((with_reducible apply qAB); exact rfl)))); exact rfl; exact SubD.refl _; refine ⟨(by repeat' (first | exact qAI | (refine qAD rfl (by exact SubA.refl _) ?_))), (by repeat' exact trivial), rfl, (by repeat' (first | exact trivial | refine And.intro ?_ ?_)), (by repeat' (first | exact trivial | refine And.intro ?_ ?_))⟩
set_option maxHeartbeats 1000000 in
theorem name_pc (n : ByteArray) (h : qDj n) : PC Tryd.prog 42 [.ag [iD 1, strD n, iD 0, qD 0]] (iD 0) := by
  obtain ⟨c, l, hc, hs, h8, _⟩ := name_get h
  have a1 := all_px n h
  have s1 := small_pc c
  rw [hs] at s1
  have hb : n.data[0]? = some c := by
    have : n.data.toList[0]? = some c := by rw [hc]; rfl
    rwa [Array.getElem?_toList] at this
  have hz : ¬ ((n.size : Int) > 8) := by omega
  refine qAs Tryd.func42 rfl (by kernel_rfl) mixed (by kernel_rfl) (qle (by kernel_rfl)) Tryd.results42 ?_
  repeat (first | ((first | (with_reducible apply rpGT) | (with_reducible apply drGT) | (with_reducible apply qCw) | (with_reducible apply qCv)); exact rfl; exact qAR rfl; (first | exact rfl | assumption | decide); (focus repeat' (first | exact trivial | refine And.intro ?_ ?_)); ((first | ((with_reducible first | apply qAd | apply qAa); (conv => lhs; whnf)) | ((with_reducible first | apply qAQ | apply qAc | apply qAe | apply qAU | apply qBH | apply qAn) <;> first | ((with_reducible apply tyOk); exact rfl) | exact rfl | exact trivial | decide)); (first | exact qAE _ | exact qBU _ _ | exact qBV _ _ _ | exact qBW _ _ _ _))) | (with_reducible first | apply qAj | apply qAh | apply qAi | apply qAg) | ((with_reducible apply rp); first | ((with_reducible apply qAd); (conv => lhs; whnf)) | ((with_reducible apply qAa); (conv => lhs; whnf)) | ((with_reducible apply qAQ); (iterate 3 exact rfl); exact trivial) | ((with_reducible apply qAc); exact tyOk rfl; exact rfl; exact rfl; decide; exact rfl) | ((with_reducible apply qAe); exact tyOk rfl; (iterate 4 exact rfl)) | ((with_reducible apply qAU); exact rfl; exact rfl) | ((with_reducible apply qBH); exact rfl; exact rfl)) | ((with_reducible apply rp1); ((with_reducible apply qAn); exact rfl; exact rfl)))
  refine qAo rfl (fun hd => (by cases hd)) (fun hd => ?_)
  clear hd
  repeat (first | ((first | (with_reducible apply rpGT) | (with_reducible apply drGT) | (with_reducible apply qCw) | (with_reducible apply qCv)); exact rfl; (first | exact qAZ rfl | exact qAR rfl); (first | exact rfl | assumption | decide); (focus repeat' (first | exact trivial | exact fun h => h | refine And.intro ?_ ?_ | (intro h; simp_all))); ((first | ((with_reducible apply qAd); (conv => lhs; whnf)) | ((with_reducible apply qAQ); (iterate 3 exact rfl); (first | exact trivial | exact fun h => h)) | ((with_reducible apply qAK); (iterate 3 exact rfl); (first | exact trivial | exact fun h => h)) | ((with_reducible first | apply qAc | apply qAe | apply qAt | apply qBH | apply qB4) <;> first | ((with_reducible apply tyOk); exact rfl) | exact rfl | decide)); (first | exact qAE _ | exact qBU _ _ | exact qBV _ _ _ | exact qBW _ _ _ _))) | (with_reducible first | apply qAj | apply qAh | apply qAi | apply qAg | apply qAm) | ((first | (with_reducible apply rp) | ((with_reducible apply rpG); exact rfl; (first | exact qAZ rfl | exact qAR rfl); (focus repeat' (first | exact trivial | exact fun h => h | refine And.intro ?_ ?_ | (intro h; simp_all))); intro hgd; have hgd0 := hgd; (try simp only [decide_eq_true_eq, Bool.and_eq_true, Bool.not_eq_true', beq_iff_eq] at hgd))); first | ((with_reducible apply qAd); (conv => lhs; whnf)) | ((with_reducible apply qAQ); (iterate 3 exact rfl); (first | exact trivial | exact fun h => h)) | ((with_reducible apply qAK); (iterate 3 exact rfl); (first | exact trivial | exact fun h => h)) | ((with_reducible first | apply qAc | apply qAe | apply qAt | apply qBH | apply qB4) <;> first | ((with_reducible apply tyOk); exact rfl) | exact rfl | decide)) | ((first | (with_reducible apply rpGP) | (with_reducible apply drGP)); exact rfl; (first | exact qAZ rfl | exact qAR rfl); (focus repeat' (first | exact trivial | exact fun h => h | refine And.intro ?_ ?_ | (intro h; simp_all))); (intro hgd; have hgd0 := hgd; (try simp only [decide_eq_true_eq, Bool.and_eq_true, Bool.not_eq_true', beq_iff_eq] at hgd); first | ((with_reducible apply qAK); (iterate 3 exact rfl); (first | exact trivial | exact fun h => h)) | ((with_reducible apply qAQ); (iterate 3 exact rfl); (first | exact trivial | exact fun h => h)))))
  refine qAo rfl (fun hd => absurd hd (by simp; omega)) (fun hd => ?_)
  clear hd
  repeat (first | ((first | (with_reducible apply rpGT) | (with_reducible apply drGT) | (with_reducible apply qCw) | (with_reducible apply qCv)); exact rfl; (first | exact qAZ rfl | exact qAR rfl); (first | exact rfl | assumption | decide); (focus repeat' (first | exact trivial | exact fun h => h | refine And.intro ?_ ?_ | (intro h; simp_all))); ((first | ((with_reducible apply qAd); (conv => lhs; whnf)) | ((with_reducible apply qAQ); (iterate 3 exact rfl); (first | exact trivial | exact fun h => h)) | ((with_reducible apply qAK); (iterate 3 exact rfl); (first | exact trivial | exact fun h => h)) | ((with_reducible first | apply qAc | apply qAe | apply qAt | apply qAV) <;> first | ((with_reducible apply tyOk); exact rfl) | exact rfl | decide) | ((with_reducible apply qFw); exact rfl; exact rfl)); (first | exact qAE _ | exact qBU _ _ | exact qBV _ _ _ | exact qBW _ _ _ _))) | (with_reducible first | apply qAj | apply qAh | apply qAi | apply qAg | apply qAm) | ((first | (with_reducible apply rp) | ((with_reducible apply rpG); exact rfl; (first | exact qAZ rfl | exact qAR rfl); (focus repeat' (first | exact trivial | exact fun h => h | refine And.intro ?_ ?_ | (intro h; simp_all))); intro hgd; have hgd0 := hgd; (try simp only [decide_eq_true_eq, Bool.and_eq_true, Bool.not_eq_true', beq_iff_eq] at hgd))); first | ((with_reducible apply qAd); (conv => lhs; whnf)) | ((with_reducible apply qAQ); (iterate 3 exact rfl); (first | exact trivial | exact fun h => h)) | ((with_reducible apply qAK); (iterate 3 exact rfl); (first | exact trivial | exact fun h => h)) | ((with_reducible first | apply qAc | apply qAe | apply qAt | apply qAV) <;> first | ((with_reducible apply tyOk); exact rfl) | exact rfl | decide) | ((with_reducible apply qFw); exact rfl; exact rfl)) | ((first | (with_reducible apply rpGP) | (with_reducible apply drGP)); exact rfl; (first | exact qAZ rfl | exact qAR rfl); (focus repeat' (first | exact trivial | exact fun h => h | refine And.intro ?_ ?_ | (intro h; simp_all))); (intro hgd; have hgd0 := hgd; (try simp only [decide_eq_true_eq, Bool.and_eq_true, Bool.not_eq_true', beq_iff_eq] at hgd); first | ((with_reducible apply qAK); (iterate 3 exact rfl); (first | exact trivial | exact fun h => h)) | ((with_reducible apply qAQ); (iterate 3 exact rfl); (first | exact trivial | exact fun h => h)))))
  refine qAo rfl (fun hd => absurd hd (by simp)) (fun hd => ?_)
  clear hd
  repeat (first | ((first | (with_reducible apply rpGT) | (with_reducible apply drGT) | (with_reducible apply qCw) | (with_reducible apply qCv)); exact rfl; (first | exact qAZ rfl | exact qAR rfl | exact qBt rfl | exact qBu rfl); (first | exact rfl | assumption | decide); (focus repeat' (first | exact trivial | exact fun h => h | refine And.intro ?_ ?_ | (intro h; (first | exact h | (simp only [Bool.and_eq_true] at h; (first | exact h.1 | exact h.1.1 | exact h.1.1.1 | exact h.2)) | (rw [h]; rfl) | (rw [hgd0, h]; rfl) | simp_all)))); ((first | ((with_reducible apply qAa); (conv => lhs; whnf)) | ((with_reducible first | apply qAc | apply qAe | apply qAt) <;> first | ((with_reducible apply tyOk); exact rfl) | exact rfl | decide)); (first | exact qAE _ | exact qBU _ _ | exact qBV _ _ _ | exact qBW _ _ _ _))) | (with_reducible first | apply qAj | apply qAh | apply qAi | apply qAg | apply qAq | apply qAm) | ((with_reducible apply rp); first | ((with_reducible apply qAa); (conv => lhs; whnf)) | ((with_reducible apply qAc); exact tyOk rfl; exact rfl; exact rfl; decide; exact rfl) | ((with_reducible apply qAe); exact tyOk rfl; (iterate 4 exact rfl)) | ((with_reducible apply qAt); exact rfl; exact rfl)))
  refine qAo rfl (fun hd => ?_) (fun hd => (by cases hd))
  clear hd
  repeat (first | ((first | (with_reducible apply rpGT) | (with_reducible apply drGT) | (with_reducible apply qCw) | (with_reducible apply qCv)); exact rfl; exact qAZ rfl; (first | exact rfl | assumption | decide); (focus repeat' (first | exact trivial | refine And.intro ?_ ?_)); (first | ((refine qAC [] [] (ups := []) rfl (a1) rfl ?_ rfl ?_ ?_ rfl rfl rfl rfl rfl ?_ rfl rfl; (focus repeat' exact trivial); (iterate 3 (focus repeat' (first | exact trivial | refine And.intro ?_ ?_)))); (first | exact qAE _ | exact qBU _ _ | exact qBV _ _ _ | exact qBW _ _ _ _)) | ((first | ((with_reducible apply qAf); exact rfl; exact rfl; exact (s1); exact rfl) | ((with_reducible first | apply qAd | apply qAa); (conv => lhs; whnf)) | ((with_reducible first | apply qAQ | apply qAc | apply qAe | apply qAX) <;> first | ((with_reducible apply tyOk); exact rfl) | exact rfl | exact trivial | decide) | ((with_reducible apply qCL); exact tyOk rfl; (iterate 4 exact rfl); assumption)); (first | exact qAE _ | exact qBU _ _ | exact qBV _ _ _ | exact qBW _ _ _ _)))) | (with_reducible first | apply qAj | apply qAh | apply qAi | apply qAg | apply qAF) | ((with_reducible apply rp); first | ((with_reducible apply qAf); exact rfl; exact rfl; exact (s1); exact rfl) | ((with_reducible apply qAd); (conv => lhs; whnf)) | ((with_reducible apply qAa); (conv => lhs; whnf)) | ((with_reducible apply qAQ); (iterate 3 exact rfl); exact trivial) | ((with_reducible apply qAc); exact tyOk rfl; exact rfl; exact rfl; decide; exact rfl) | ((with_reducible apply qAe); exact tyOk rfl; (iterate 4 exact rfl)) | ((with_reducible apply qAX); exact rfl) | ((with_reducible apply qCL); exact tyOk rfl; (iterate 4 exact rfl); assumption)) | ((with_reducible apply rpL); (refine qAC [] [] (ups := []) rfl (a1) rfl ?_ rfl ?_ ?_ rfl rfl rfl rfl rfl ?_ rfl rfl; (focus repeat' exact trivial); (iterate 3 (focus repeat' (first | exact trivial | refine And.intro ?_ ?_)))); exact qAE _))
  refine qAo rfl (fun hd => (by cases hd)) (fun hd => ?_)
  clear hd
  repeat (first | ((first | (with_reducible apply rpGT) | (with_reducible apply drGT) | (with_reducible apply qCw) | (with_reducible apply qCv)); exact rfl; (first | exact qAZ rfl | exact qAR rfl | exact qBt rfl | exact qBu rfl); (first | exact rfl | assumption | decide); (focus repeat' (first | exact trivial | exact fun h => h | refine And.intro ?_ ?_ | (intro h; (first | exact h | (simp only [Bool.and_eq_true] at h; (first | exact h.1 | exact h.1.1 | exact h.1.1.1 | exact h.2)) | (rw [h]; rfl) | (rw [hgd0, h]; rfl) | simp_all)))); ((first | ((with_reducible apply qAa); (conv => lhs; whnf))); (first | exact qAE _ | exact qBU _ _ | exact qBV _ _ _ | exact qBW _ _ _ _))) | (with_reducible first | apply qAj | apply qAh | apply qAi | apply qAg | apply qAu | apply qAy | apply qAm) | ((with_reducible apply rp); ((with_reducible apply qAa); (conv => lhs; whnf))))
  (with_reducible apply qAz); (focus (repeat' (first | (with_reducible apply qAw) | (with_reducible apply qAr) | ((with_reducible apply qAB); exact rfl)))); exact rfl; refine SubD.of_eq ?_
  rfl
end Go.Proofs.YtpaccaojgbfjdaaDoor


/-
  expr.size, wants, node, nodes, Check of an expression that may be. No condition but its size.
-/
namespace Go.Proofs.YtpaccaojgbfjdaaDoor
open Go.RowKit

abbrev argsD (l : List Ex) : D := .sl 7 (l.map Ex.cs)
set_option maxHeartbeats 1000000 in
theorem size_pc : ∀ (f : Nat) (x : Ex) (d : Nat), x.deep ≤ f → d + x.deep ≤ 8 → x.num ≤ 40 → PC Tryd.prog 75 [.ag x.cs, iD d] (.tu [iD x.num, bD true])
  | 0, x, d, hf, _, _ => absurd hf (by have := x.deep_pos; omega)
  | f + 1, x, d, hf, hd8, hn => by
    have ih := size_pc f
    have hdp := fun a => Ex.deep_arg (x := x) (a := a)
    have hxp := x.deep_pos
    have hnum := x.num_eq
    have hal := x.args_len
    have hn2 : 1 + numL x.args ≤ 40 := by omega
    rw [hnum, Ex.cs_eq]
    clear hn hnum
    generalize x.op = op
    generalize x.val = v
    generalize x.nam = nm
    generalize x.args = l at *
    refine qAs Tryd.func75 rfl (by kernel_rfl) mixed (by kernel_rfl) (qle (by kernel_rfl)) Tryd.results75 ?_
    repeat (first | (with_reducible first | apply qAj | apply qAh | apply qAi | apply qAg) | ((with_reducible apply rp); first | ((with_reducible apply qAd); (conv => lhs; whnf)) | ((with_reducible apply qAa); (conv => lhs; whnf)) | ((with_reducible apply qBH); exact rfl; exact rfl)) | ((with_reducible apply rp1); ((with_reducible apply qAn); exact rfl; exact rfl)))
    refine qAo rfl (fun hd => absurd hd (by simp; omega)) (fun hd => ?_)
    clear hd
    repeat (first | (with_reducible first | apply qAj | apply qAh | apply qAi | apply qAg | apply qAq | apply qAm) | ((with_reducible apply rp); first | ((with_reducible apply qAd); (conv => lhs; whnf)) | ((with_reducible apply qAa); (conv => lhs; whnf)) | ((with_reducible apply qAc); exact tyOk rfl; exact rfl; exact rfl; decide; exact rfl) | ((with_reducible apply qAe); exact tyOk rfl; (iterate 4 exact rfl)) | ((with_reducible apply qA3); exact tyOk rfl; exact rfl; exact rfl)))
    refine qBn (fun m s => ∃ k, k ≤ l.length ∧ m = l.length - k ∧ s = ⟨[(1, .d (iD d)), (6, .d (iD (1 + numL (l.take k) : Nat))), (14, .d (argsD l)), (15, .d (iD l.length)), (16, .d (iD k))], []⟩) _ _ ?_ ⟨0, by omega, rfl, rfl⟩ ?_
    · refine qAx [] (by repeat' (first | exact qAI | (refine qAD rfl (by exact SubA.refl _) ?_))) (by repeat' exact trivial) rfl (by repeat' (first | exact trivial | refine And.intro ?_ ?_)) (by repeat' (first | exact trivial | refine And.intro ?_ ?_))
    · rintro m s ⟨k, hk, rfl, rfl⟩
      repeat (first | (with_reducible first | apply qAj | apply qAh | apply qAi | apply qAg) | ((with_reducible apply rp); ((with_reducible apply qAU); exact rfl; exact rfl)))
      refine qAo rfl (fun hd => ?_) (fun hd => ?_)
      · have hlt : k < l.length := by simp at hd; omega
        clear hd
        obtain ⟨a, ha⟩ : ∃ a, l[k]? = some a := ⟨_, List.getElem?_eq_getElem hlt⟩
        have ha2 : (l.map Ex.cs)[k]? = some a.cs := by rw [List.getElem?_map, ha]; rfl
        have hm := hdp a (List.mem_of_getElem? ha)
        have ht : numL (l.take (k + 1)) = numL (l.take k) + a.num := by rw [List.take_add_one, ha, numL_app]; rfl
        have hle := numL_le l (k + 1)
        have p1 := ih a (d + 1) (by omega) (by omega) (by omega)
        have hcl := a.cs_eq
        generalize a.num = an at *
        generalize numL (l.take k) = q at *
        generalize a.cs = acs at *
        subst hcl
        repeat (first | (with_reducible first | apply qAj | apply qAh | apply qAi | apply qAg | apply qAq | apply qAm) | ((first | (with_reducible apply rp) | ((with_reducible apply rpG); exact rfl; exact qAR rfl; (focus repeat' (first | exact trivial | exact fun h => h | refine And.intro ?_ ?_)); intro hgd; have hgd0 := hgd; (try simp only [decide_eq_true_eq, Bool.and_eq_true, Bool.not_eq_true', beq_iff_eq] at hgd))); first | ((with_reducible apply qAf); exact rfl; exact rfl; exact (p1); exact rfl) | ((with_reducible first | apply qAd | apply qAa); (conv => lhs; whnf)) | ((with_reducible first | apply qAK | apply qAl | apply qBH | apply qAX | apply qAv) <;> first | ((with_reducible apply tyOk); exact rfl) | exact rfl | exact qle rfl | exact fun h => h) | ((with_reducible apply qAG); exact tyOk rfl; exact rfl; exact rfl; assumption; exact rfl) | ((with_reducible apply qAM); exact tyOk rfl; exact rfl; exact tyOk rfl; (iterate 4 exact rfl); (simp only [List.length_map, List.length_append, List.length_cons, List.length_nil] at *; omega)) | ((with_reducible apply qAJ); exact rfl; exact rfl; omega; omega)) | ((with_reducible apply rp1); ((with_reducible apply qAk); exact tyOk rfl; exact rfl)) | ((with_reducible apply rpN); ((with_reducible apply qAb); exact tyOk rfl; (iterate 5 exact rfl))))
        refine qAo rfl (fun hd => absurd hd (by simp; omega)) (fun hd => ?_)
        clear hd
        repeat (first | (with_reducible first | apply qAh | apply qAi | apply qAg | apply qAF | apply qAm) | ((with_reducible apply rp); first | ((with_reducible apply qAd); (conv => lhs; whnf)) | ((with_reducible apply qAJ); exact rfl; exact rfl; omega; omega)))
        refine ⟨_, _, ?_, ?_, k + 1, by omega, rfl, rfl⟩
        · omega
        · rw [ht, ← Nat.add_assoc]
          refine qAx [] (by repeat' (first | exact qAI | (refine qAD rfl (by exact SubA.refl _) ?_))) (by repeat' exact trivial) rfl (by repeat' (first | exact trivial | refine And.intro ?_ ?_)) (by repeat' (first | exact trivial | refine And.intro ?_ ?_))
      · have hke : k = l.length := by simp at hd; omega
        clear hd
        subst hke
        repeat (first | (with_reducible first | apply qAj | apply qAh | apply qAi | apply qAg | apply qBd | apply qBa | apply qBc | apply qAu | apply qAy) | ((with_reducible apply rp); first | ((with_reducible apply qAd); (conv => lhs; whnf)) | ((with_reducible apply qAa); (conv => lhs; whnf))))
        (with_reducible apply qAz); (focus (repeat' (first | (with_reducible apply qAw) | (with_reducible apply qAr) | ((with_reducible apply qAB); exact rfl)))); exact rfl; refine SubD.of_eq ?_
        rw [List.take_length]
        rfl
theorem wants_leaf (op : Nat) (h : op = 1 ∨ op = 2) : PC Tryd.prog 103 [iD op] (iD 0) := by
  rcases h with rfl | rfl
  · refine qAs Tryd.func103 rfl (by kernel_rfl) mixed (by kernel_rfl) (qle (by kernel_rfl)) Tryd.results103 ?_
    repeat (first | (with_reducible first | apply qAj | apply qAh | apply qAi | apply qAg | apply qAq | apply qAu | apply qAS | apply qBe | apply qAy | apply qAm) | ((with_reducible apply rp); first | ((with_reducible apply qAd); (conv => lhs; whnf)) | ((with_reducible apply qAa); (conv => lhs; whnf)) | ((with_reducible apply qAt); exact rfl; exact rfl)) | ((with_reducible apply qBo); exact rfl; exact rfl))
    (with_reducible apply qAz); (focus (repeat' (first | (with_reducible apply qAw) | (with_reducible apply qAr) | ((with_reducible apply qAB); exact rfl)))); exact rfl; refine SubD.of_eq ?_
    rfl
  · refine qAs Tryd.func103 rfl (by kernel_rfl) mixed (by kernel_rfl) (qle (by kernel_rfl)) Tryd.results103 ?_
    repeat (first | (with_reducible first | apply qAj | apply qAh | apply qAi | apply qAg | apply qAq | apply qAu | apply qAS | apply qBe | apply qAy) | ((with_reducible apply rp); first | ((with_reducible apply qAd); (conv => lhs; whnf)) | ((with_reducible apply qAa); (conv => lhs; whnf)) | ((with_reducible apply qAt); exact rfl; exact rfl)) | ((with_reducible apply qA9); exact rfl; exact rfl) | ((with_reducible apply qBo); exact rfl; exact rfl))
    (with_reducible apply qAz); (focus (repeat' (first | (with_reducible apply qAw) | (with_reducible apply qAr) | ((with_reducible apply qAB); exact rfl)))); exact rfl; refine SubD.of_eq ?_
    rfl
theorem wants_un (op : Nat) (h : un1 op) : PC Tryd.prog 103 [iD op] (iD 1) := by
  rcases h with rfl | rfl | rfl | rfl
  · refine qAs Tryd.func103 rfl (by kernel_rfl) mixed (by kernel_rfl) (qle (by kernel_rfl)) Tryd.results103 ?_
    repeat (first | (with_reducible first | apply qAj | apply qAh | apply qAi | apply qAg | apply qAq | apply qAu | apply qAS | apply qBe | apply qAy | apply qAm) | ((with_reducible apply rp); first | ((with_reducible apply qAd); (conv => lhs; whnf)) | ((with_reducible apply qAa); (conv => lhs; whnf)) | ((with_reducible apply qAt); exact rfl; exact rfl)) | ((with_reducible apply qA9); exact rfl; exact rfl) | ((with_reducible apply qBo); exact rfl; exact rfl))
    (with_reducible apply qAz); (focus (repeat' (first | (with_reducible apply qAw) | (with_reducible apply qAr) | ((with_reducible apply qAB); exact rfl)))); exact rfl; refine SubD.of_eq ?_
    rfl
  · refine qAs Tryd.func103 rfl (by kernel_rfl) mixed (by kernel_rfl) (qle (by kernel_rfl)) Tryd.results103 ?_
    repeat (first | (with_reducible first | apply qAj | apply qAh | apply qAi | apply qAg | apply qAq | apply qAu | apply qAS | apply qBe | apply qAy | apply qAm) | ((with_reducible apply rp); first | ((with_reducible apply qAd); (conv => lhs; whnf)) | ((with_reducible apply qAa); (conv => lhs; whnf)) | ((with_reducible apply qAt); exact rfl; exact rfl)) | ((with_reducible apply qA9); exact rfl; exact rfl) | ((with_reducible apply qBo); exact rfl; exact rfl))
    (with_reducible apply qAz); (focus (repeat' (first | (with_reducible apply qAw) | (with_reducible apply qAr) | ((with_reducible apply qAB); exact rfl)))); exact rfl; refine SubD.of_eq ?_
    rfl
  · refine qAs Tryd.func103 rfl (by kernel_rfl) mixed (by kernel_rfl) (qle (by kernel_rfl)) Tryd.results103 ?_
    repeat (first | (with_reducible first | apply qAj | apply qAh | apply qAi | apply qAg | apply qAq | apply qAu | apply qAS | apply qBe | apply qAy | apply qAm) | ((with_reducible apply rp); first | ((with_reducible apply qAd); (conv => lhs; whnf)) | ((with_reducible apply qAa); (conv => lhs; whnf)) | ((with_reducible apply qAt); exact rfl; exact rfl)) | ((with_reducible apply qA9); exact rfl; exact rfl) | ((with_reducible apply qBo); exact rfl; exact rfl))
    (with_reducible apply qAz); (focus (repeat' (first | (with_reducible apply qAw) | (with_reducible apply qAr) | ((with_reducible apply qAB); exact rfl)))); exact rfl; refine SubD.of_eq ?_
    rfl
  · refine qAs Tryd.func103 rfl (by kernel_rfl) mixed (by kernel_rfl) (qle (by kernel_rfl)) Tryd.results103 ?_
    repeat (first | (with_reducible first | apply qAj | apply qAh | apply qAi | apply qAg | apply qAq | apply qAu | apply qAS | apply qBe | apply qAy) | ((with_reducible apply rp); first | ((with_reducible apply qAd); (conv => lhs; whnf)) | ((with_reducible apply qAa); (conv => lhs; whnf)) | ((with_reducible apply qAt); exact rfl; exact rfl)) | ((with_reducible apply qA9); exact rfl; exact rfl) | ((with_reducible apply qBo); exact rfl; exact rfl))
    (with_reducible apply qAz); (focus (repeat' (first | (with_reducible apply qAw) | (with_reducible apply qAr) | ((with_reducible apply qAB); exact rfl)))); exact rfl; refine SubD.of_eq ?_
    rfl
theorem wants_bi (op : Nat) (h : bi2 op) : PC Tryd.prog 103 [iD op] (iD 2) := by
  obtain ⟨h1, h2, h3, h4⟩ := h
  refine qAs Tryd.func103 rfl (by kernel_rfl) mixed (by kernel_rfl) (qle (by kernel_rfl)) Tryd.results103 ?_
  repeat (first | (with_reducible first | apply qAj | apply qAh | apply qAi | apply qAg | apply qAq | apply qAF | apply qAu | apply qAy | apply qAm) | ((with_reducible apply rp); first | ((with_reducible apply qAd); (conv => lhs; whnf)) | ((with_reducible apply qAa); (conv => lhs; whnf)) | ((with_reducible apply qAt); exact rfl; exact rfl)) | ((with_reducible apply qAo); exact rfl; (focus (intro hd; (exfalso; simp at hd; omega))); (intro hd; clear hd)))
  (with_reducible apply qAz); (focus (repeat' (first | (with_reducible apply qAw) | (with_reducible apply qAr) | ((with_reducible apply qAB); exact rfl)))); exact rfl; refine SubD.of_eq ?_
  rfl
end Go.Proofs.YtpaccaojgbfjdaaDoor


/-
  expr.node, nodes, Check of an expression that may be. No condition but its size.
-/
namespace Go.Proofs.YtpaccaojgbfjdaaDoor
open Go.RowKit

theorem check_0 : PC Tryd.prog 73 [.ag [iD 0, iD 0, qD 0, strD .empty]] (iD 0) := by
  have c1 := qES ⟨0, 0, 0, .empty⟩ (by show ByteArray.empty.size ≤ _; decide)
  rw [Gd.null.chk] at c1
  exact c1
set_option maxHeartbeats 1000000 in
theorem node_lit (v : Vl) (hv : Gd v) (h0 : 0 ≤ v.n) : PC Tryd.prog 95 [.ag (Ex.lit v).cs] (iD 0) := by
  have c1 := qES v (by have := hv.size; omega)
  rw [hv.chk] at c1
  have w1 := wants_leaf 1 (.inl rfl)
  obtain ⟨k, n, b, t⟩ := v
  unfold Ex.cs Vl.cs at *
  dsimp only at *
  refine qAs Tryd.func95 rfl (by kernel_rfl) mixed (by kernel_rfl) (qle (by kernel_rfl)) Tryd.results95 ?_
  repeat (first | (with_reducible first | apply qAj | apply qAh | apply qAi | apply qAg | apply qA5 | apply qAu | apply qAy | apply qAm) | ((with_reducible apply qBh); (first | kernel_rfl | exact rfl)) | ((first | (with_reducible first | apply rp | apply dr) | ((with_reducible apply rpG); exact rfl; (first | exact qAZ rfl | exact qAR rfl | exact qBt rfl | exact qBu rfl); (focus repeat' (first | exact trivial | exact fun h => h | refine And.intro ?_ ?_ | (intro h; simp_all))); intro hgd; have hgd0 := hgd; (try simp only [decide_eq_true_eq, Bool.and_eq_true, Bool.not_eq_true', beq_iff_eq] at hgd))); first | ((with_reducible apply qAf); exact rfl; exact rfl; (first | exact (w1) | exact (c1)); exact rfl) | (exact qCC (c := false) rfl rfl (by rw [qF5]; rfl)) | ((with_reducible first | apply qAd | apply qAa); (conv => lhs; whnf)) | ((with_reducible apply qAQ); (iterate 3 exact rfl); (first | exact trivial | exact fun h => h)) | ((with_reducible apply qAK); (iterate 3 exact rfl); (first | exact trivial | exact fun h => h)) | ((with_reducible apply qCd); exact rfl; (first | assumption | decide); (conv => lhs; whnf)) | ((with_reducible first | apply qAc | apply qAe | apply qAt | apply qAV | apply qAU | apply qBH | apply qBA | apply qAW) <;> first | ((with_reducible apply tyOk); exact rfl) | exact rfl | decide) | ((with_reducible apply qAl); exact tyOk rfl; (iterate 3 exact rfl); exact qle rfl; exact rfl) | ((with_reducible apply qEq); exact rfl; exact rfl; exact tgOk rfl; exact rfl) | ((with_reducible apply qFk); exact tyOk rfl; (iterate 4 exact rfl)) | ((with_reducible apply qAT); exact tyOk rfl; exact rfl; exact rfl; (focus repeat' (first | exact rfl | refine ⟨_, _, rfl, rfl, qle rfl, rfl, ?_⟩)); exact rfl)) | ((with_reducible apply rp1); ((with_reducible apply qAn); exact rfl; exact rfl)) | ((with_reducible apply qAo); exact rfl; (focus (intro hd; (first | (cases hd; done) | (exfalso; simp at hd; omega)))); (intro hd; clear hd)) | ((first | (with_reducible apply rpGF) | (with_reducible apply drGF)); exact rfl; (first | exact qAZ rfl | exact qAR rfl | exact qBt rfl | exact qBu rfl); (first | assumption | decide | exact rfl); (focus repeat' (first | exact trivial | exact fun h => h | refine And.intro ?_ ?_ | (intro h; simp_all)))) | ((first | (with_reducible apply rpGP) | (with_reducible apply drGP)); exact rfl; (first | exact qAZ rfl | exact qAR rfl | exact qBt rfl | exact qBu rfl); (focus repeat' (first | exact trivial | exact fun h => h | refine And.intro ?_ ?_ | (intro h; simp_all))); (intro hgd; have hgd0 := hgd; (try simp only [decide_eq_true_eq, Bool.and_eq_true, Bool.not_eq_true', beq_iff_eq] at hgd); first | ((with_reducible apply qAK); (iterate 3 exact rfl); (first | exact trivial | exact fun h => h)) | ((with_reducible apply qAQ); (iterate 3 exact rfl); (first | exact trivial | exact fun h => h)))))
  (with_reducible apply qAz); (focus (repeat' (first | (with_reducible apply qAw) | (with_reducible apply qAr) | ((with_reducible apply qAB); exact rfl)))); exact rfl; refine SubD.of_eq ?_
  rfl
set_option maxHeartbeats 1000000 in
theorem node_col (n : ByteArray) (h : qDj n) : PC Tryd.prog 95 [.ag (Ex.col n).cs] (iD 0) := by
  have w1 := wants_leaf 2 (.inr rfl)
  have hn := name_nil h
  have n1 := name_pc n h
  have c1 := check_0
  unfold Ex.cs at *
  refine qAs Tryd.func95 rfl (by kernel_rfl) mixed (by kernel_rfl) (qle (by kernel_rfl)) Tryd.results95 ?_
  repeat (first | (with_reducible first | apply qAj | apply qAh | apply qAi | apply qAg | apply qA5 | apply qAu | apply qAy | apply qAm) | ((with_reducible apply qBh); (first | kernel_rfl | exact rfl)) | ((first | (with_reducible first | apply rp | apply dr) | ((with_reducible apply rpG); exact rfl; (first | exact qAZ rfl | exact qAR rfl | exact qBt rfl | exact qBu rfl); (focus repeat' (first | exact trivial | exact fun h => h | refine And.intro ?_ ?_)); intro hgd; have hgd0 := hgd; (try simp only [decide_eq_true_eq, Bool.and_eq_true, Bool.not_eq_true', beq_iff_eq] at hgd))); first | ((with_reducible apply qAf); exact rfl; exact rfl; (first | exact (w1) | exact (n1) | exact (c1)); exact rfl) | (exact qCC (c := true) rfl rfl (by rw [hn]; rfl)) | ((with_reducible first | apply qAd | apply qAa); (conv => lhs; whnf)) | ((with_reducible apply qAQ); (iterate 3 exact rfl); (first | exact trivial | exact fun h => h)) | ((with_reducible apply qAK); (iterate 3 exact rfl); (first | exact trivial | exact fun h => h)) | ((with_reducible first | apply qAc | apply qAe | apply qAt | apply qAV | apply qAU | apply qBH | apply qBA | apply qAW) <;> first | ((with_reducible apply tyOk); exact rfl) | exact rfl | decide) | ((with_reducible apply qAl); exact tyOk rfl; (iterate 3 exact rfl); exact qle rfl; exact rfl) | ((with_reducible apply qEq); exact rfl; exact rfl; exact tgOk rfl; exact rfl) | ((with_reducible apply qFk); exact tyOk rfl; (iterate 4 exact rfl)) | ((with_reducible apply qAT); exact tyOk rfl; exact rfl; exact rfl; (focus repeat' (first | exact rfl | refine ⟨_, _, rfl, rfl, qle rfl, rfl, ?_⟩)); exact rfl)) | ((with_reducible apply rp1); ((with_reducible apply qAn); exact rfl; exact rfl)) | ((with_reducible apply qAo); exact rfl; (focus (intro hd; (first | (cases hd; done) | (exfalso; simp at hd; done)))); (intro hd; clear hd)))
  (with_reducible apply qAz); (focus (repeat' (first | (with_reducible apply qAw) | (with_reducible apply qAr) | ((with_reducible apply qAB); exact rfl)))); exact rfl; refine SubD.of_eq ?_
  rfl
set_option maxHeartbeats 1000000 in
theorem node_un (op : Nat) (a : Ex) (h : un1 op) : PC Tryd.prog 95 [.ag (Ex.un op a).cs] (iD 0) := by
  have w1 := wants_un op h
  have c1 := check_0
  have hh : op = 3 ∨ op = 4 ∨ op = 17 ∨ op = 18 := h
  have ho2 : ((op : Int) == 2) = false := beq_eq_false_iff_ne.2 (by omega)
  unfold Ex.cs at *
  generalize a.cs = ac
  clear h
  refine qAs Tryd.func95 rfl (by kernel_rfl) mixed (by kernel_rfl) (qle (by kernel_rfl)) Tryd.results95 ?_
  repeat (first | (with_reducible first | apply qAj | apply qAh | apply qAi | apply qAg | apply qA5 | apply qAu | apply qAy | apply qAm) | ((with_reducible apply qBh); (first | kernel_rfl | exact rfl)) | ((first | (with_reducible first | apply rp | apply dr) | ((with_reducible apply rpG); exact rfl; (first | exact qAZ rfl | exact qAR rfl | exact qBt rfl | exact qBu rfl); (focus repeat' (first | exact trivial | exact fun h => h | refine And.intro ?_ ?_ | (intro h; (first | (rw [h]; rfl) | simp_all)))); intro hgd; have hgd0 := hgd; (try simp only [decide_eq_true_eq, Bool.and_eq_true, Bool.not_eq_true', beq_iff_eq] at hgd))); first | ((with_reducible apply qAf); exact rfl; exact rfl; (first | exact (w1) | exact (c1)); exact rfl) | (exact qCC (c := false) rfl rfl (by rw [qF5]; rfl)) | ((with_reducible first | apply qAd | apply qAa); (conv => lhs; whnf)) | ((with_reducible apply qAQ); (iterate 3 exact rfl); (first | exact trivial | exact fun h => h | (intro h; (rw [hgd0, h]; rfl)))) | ((with_reducible apply qAK); (iterate 3 exact rfl); (first | exact trivial | exact fun h => h | (intro h; (rw [hgd0, h]; rfl)))) | ((with_reducible apply qCd); exact rfl; (first | assumption | decide); (conv => lhs; whnf)) | ((with_reducible first | apply qAc | apply qAe | apply qAt | apply qAV | apply qAU | apply qBH | apply qBA | apply qAW) <;> first | ((with_reducible apply tyOk); exact rfl) | exact rfl | decide) | ((with_reducible apply qAl); exact tyOk rfl; (iterate 3 exact rfl); exact qle rfl; exact rfl) | ((with_reducible apply qEq); exact rfl; exact rfl; exact tgOk rfl; exact rfl) | ((with_reducible apply qFk); exact tyOk rfl; (iterate 4 exact rfl)) | ((with_reducible apply qAT); exact tyOk rfl; exact rfl; exact rfl; (focus repeat' (first | exact rfl | refine ⟨_, _, rfl, rfl, qle rfl, rfl, ?_⟩)); exact rfl)) | ((with_reducible apply rp1); ((with_reducible apply qAn); exact rfl; exact rfl)) | ((with_reducible apply qAo); exact rfl; (focus (intro hd; (first | (cases hd; done) | (exfalso; simp at hd; done) | (exfalso; simp at hd; omega)))); (intro hd; clear hd)) | ((first | (with_reducible apply rpGF) | (with_reducible apply drGF)); exact rfl; (first | exact qAZ rfl | exact qAR rfl | exact qBt rfl | exact qBu rfl); (first | assumption | decide | exact rfl); (focus repeat' (first | exact trivial | exact fun h => h | refine And.intro ?_ ?_ | (intro h; (first | (rw [h]; rfl) | simp_all))))) | ((first | (with_reducible apply rpGP) | (with_reducible apply drGP)); exact rfl; (first | exact qAZ rfl | exact qAR rfl | exact qBt rfl | exact qBu rfl); (focus repeat' (first | exact trivial | exact fun h => h | refine And.intro ?_ ?_ | (intro h; (first | (rw [h]; rfl) | simp_all)))); (intro hgd; have hgd0 := hgd; (try simp only [decide_eq_true_eq, Bool.and_eq_true, Bool.not_eq_true', beq_iff_eq] at hgd); first | ((with_reducible apply qAK); (iterate 3 exact rfl); (first | exact trivial | exact fun h => h | (intro h; (rw [hgd0, h]; rfl)))) | ((with_reducible apply qAQ); (iterate 3 exact rfl); (first | exact trivial | exact fun h => h | (intro h; (rw [hgd0, h]; rfl)))))))
  (with_reducible apply qAz); (focus (repeat' (first | (with_reducible apply qAw) | (with_reducible apply qAr) | ((with_reducible apply qAB); exact rfl)))); exact rfl; refine SubD.of_eq ?_
  rfl
set_option maxHeartbeats 1000000 in
theorem node_bi (op : Nat) (a b : Ex) (h : bi2 op) : PC Tryd.prog 95 [.ag (Ex.bi op a b).cs] (iD 0) := by
  have w1 := wants_bi op h
  have c1 := check_0
  obtain ⟨h1, h2, h3, h4⟩ := h
  have ho2 : ((op : Int) == 2) = false := beq_eq_false_iff_ne.2 (by omega)
  unfold Ex.cs at *
  generalize a.cs = ac
  generalize b.cs = bc
  refine qAs Tryd.func95 rfl (by kernel_rfl) mixed (by kernel_rfl) (qle (by kernel_rfl)) Tryd.results95 ?_
  repeat (first | (with_reducible first | apply qAj | apply qAh | apply qAi | apply qAg | apply qA5 | apply qAu | apply qAy | apply qAm) | ((with_reducible apply qBh); (first | kernel_rfl | exact rfl)) | ((first | (with_reducible first | apply rp | apply dr) | ((with_reducible apply rpG); exact rfl; (first | exact qAZ rfl | exact qAR rfl | exact qBt rfl | exact qBu rfl); (focus repeat' (first | exact trivial | exact fun h => h | refine And.intro ?_ ?_ | (intro h; (first | (rw [h]; rfl) | simp_all)))); intro hgd; have hgd0 := hgd; (try simp only [decide_eq_true_eq, Bool.and_eq_true, Bool.not_eq_true', beq_iff_eq] at hgd))); first | ((with_reducible apply qAf); exact rfl; exact rfl; (first | exact (w1) | exact (c1)); exact rfl) | (exact qCC (c := false) rfl rfl (by rw [qF5]; rfl)) | ((with_reducible first | apply qAd | apply qAa); (conv => lhs; whnf)) | ((with_reducible apply qAQ); (iterate 3 exact rfl); (first | exact trivial | exact fun h => h | (intro h; (rw [hgd0, h]; rfl)))) | ((with_reducible apply qAK); (iterate 3 exact rfl); (first | exact trivial | exact fun h => h | (intro h; (rw [hgd0, h]; rfl)))) | ((with_reducible apply qCd); exact rfl; (first | assumption | decide); (conv => lhs; whnf)) | ((with_reducible first | apply qAc | apply qAe | apply qAt | apply qAV | apply qAU | apply qBH | apply qBA | apply qAW) <;> first | ((with_reducible apply tyOk); exact rfl) | exact rfl | decide) | ((with_reducible apply qAl); exact tyOk rfl; (iterate 3 exact rfl); exact qle rfl; exact rfl) | ((with_reducible apply qEq); exact rfl; exact rfl; exact tgOk rfl; exact rfl) | ((with_reducible apply qFk); exact tyOk rfl; (iterate 4 exact rfl)) | ((with_reducible apply qAT); exact tyOk rfl; exact rfl; exact rfl; (focus repeat' (first | exact rfl | refine ⟨_, _, rfl, rfl, qle rfl, rfl, ?_⟩)); exact rfl)) | ((with_reducible apply rp1); ((with_reducible apply qAn); exact rfl; exact rfl)) | ((with_reducible apply qAo); exact rfl; (focus (intro hd; (first | (cases hd; done) | (exfalso; simp at hd; done) | (exfalso; simp at hd; omega)))); (intro hd; clear hd)) | ((first | (with_reducible apply rpGF) | (with_reducible apply drGF)); exact rfl; (first | exact qAZ rfl | exact qAR rfl | exact qBt rfl | exact qBu rfl); (first | assumption | decide | exact rfl); (focus repeat' (first | exact trivial | exact fun h => h | refine And.intro ?_ ?_ | (intro h; (first | (rw [h]; rfl) | simp_all))))) | ((first | (with_reducible apply rpGP) | (with_reducible apply drGP)); exact rfl; (first | exact qAZ rfl | exact qAR rfl | exact qBt rfl | exact qBu rfl); (focus repeat' (first | exact trivial | exact fun h => h | refine And.intro ?_ ?_ | (intro h; (first | (rw [h]; rfl) | simp_all)))); (intro hgd; have hgd0 := hgd; (try simp only [decide_eq_true_eq, Bool.and_eq_true, Bool.not_eq_true', beq_iff_eq] at hgd); first | ((with_reducible apply qAK); (iterate 3 exact rfl); (first | exact trivial | exact fun h => h | (intro h; (rw [hgd0, h]; rfl)))) | ((with_reducible apply qAQ); (iterate 3 exact rfl); (first | exact trivial | exact fun h => h | (intro h; (rw [hgd0, h]; rfl)))))))
  (with_reducible apply qAz); (focus (repeat' (first | (with_reducible apply qAw) | (with_reducible apply qAr) | ((with_reducible apply qAB); exact rfl)))); exact rfl; refine SubD.of_eq ?_
  rfl
theorem node_pc (x : Ex) (h : x.ok) : PC Tryd.prog 95 [.ag x.cs] (iD 0) := by
  cases x with
  | lit v => exact node_lit v h.1 h.2
  | col n => exact node_col n h
  | un op a => exact node_un op a h.1
  | bi op a b => exact node_bi op a b h.1
set_option maxHeartbeats 1000000 in
theorem nodes_pc : ∀ (f : Nat) (x : Ex), x.deep ≤ f → x.ok → PC Tryd.prog 76 [.ag x.cs] (iD 0)
  | 0, x, hf, _ => absurd hf (by have := x.deep_pos; omega)
  | f + 1, x, hf, hok => by
    have ih := nodes_pc f
    have hdp := fun a => Ex.deep_arg (x := x) (a := a)
    have hop := fun a => Ex.ok_arg (x := x) (a := a) hok
    have n1 := node_pc x hok
    have hal := x.args_len
    clear hok
    have hxd : x.deep ≤ f + 1 := hf
    generalize x.deep = xd at *
    rw [Ex.cs_eq] at *
    generalize x.op = op at *
    generalize x.val = v at *
    generalize x.nam = nm at *
    generalize x.args = l at *
    refine qAs Tryd.func76 rfl (by kernel_rfl) mixed (by kernel_rfl) (qle (by kernel_rfl)) Tryd.results76 ?_
    repeat (first | (with_reducible first | apply qAj | apply qAh | apply qAi | apply qAg | apply qAq | apply qAm) | ((with_reducible apply rp); first | ((with_reducible apply qAf); exact rfl; exact rfl; exact (n1); exact rfl) | ((with_reducible apply qAd); (conv => lhs; whnf)) | ((with_reducible apply qAa); (conv => lhs; whnf)) | ((with_reducible apply qAc); exact tyOk rfl; exact rfl; exact rfl; decide; exact rfl) | ((with_reducible apply qAe); exact tyOk rfl; (iterate 4 exact rfl)) | ((with_reducible apply qAl); exact tyOk rfl; (iterate 3 exact rfl); exact qle rfl; exact rfl) | ((with_reducible apply qAV); exact rfl; exact rfl) | ((with_reducible apply qA3); exact tyOk rfl; exact rfl; exact rfl)) | ((with_reducible apply rp1); ((with_reducible apply qAn); exact rfl; exact rfl)) | ((with_reducible apply qA9); exact rfl; exact rfl))
    refine qBn (fun m s => ∃ k, k ≤ l.length ∧ m = l.length - k ∧ s = ⟨[(13, .d (argsD l)), (14, .d (iD l.length)), (15, .d (iD k))], []⟩) _ _ ?_ ⟨0, by omega, rfl, rfl⟩ ?_
    · refine qAx [] (by repeat' (first | exact qAI | (refine qAD rfl (by exact SubA.refl _) ?_))) (by repeat' exact trivial) rfl (by repeat' (first | exact trivial | refine And.intro ?_ ?_)) (by repeat' (first | exact trivial | refine And.intro ?_ ?_))
    · rintro m s ⟨k, hk, rfl, rfl⟩
      repeat (first | (with_reducible first | apply qAj | apply qAh | apply qAi | apply qAg) | ((with_reducible apply rp); ((with_reducible apply qAU); exact rfl; exact rfl)))
      refine qAo rfl (fun hd => ?_) (fun hd => ?_)
      · have hlt : k < l.length := by simp at hd; omega
        clear hd n1
        obtain ⟨a, ha⟩ : ∃ a, l[k]? = some a := ⟨_, List.getElem?_eq_getElem hlt⟩
        have ha2 : (l.map Ex.cs)[k]? = some a.cs := by rw [List.getElem?_map, ha]; rfl
        have hm := hdp a (List.mem_of_getElem? ha)
        have p1 := ih a (by omega) (hop a (List.mem_of_getElem? ha))
        have hcl := a.cs_eq
        generalize a.cs = acs at *
        subst hcl
        repeat (first | (with_reducible first | apply qAj | apply qAh | apply qAi | apply qAg | apply qAq | apply qAF | apply qAm) | ((with_reducible apply rp); first | ((with_reducible apply qAf); exact rfl; exact rfl; exact (p1); exact rfl) | ((with_reducible apply qAd); (conv => lhs; whnf)) | ((with_reducible apply qAa); (conv => lhs; whnf)) | ((with_reducible apply qAl); exact tyOk rfl; (iterate 3 exact rfl); exact qle rfl; exact rfl) | ((with_reducible apply qAG); exact tyOk rfl; exact rfl; exact rfl; assumption; exact rfl) | ((with_reducible apply qAM); exact tyOk rfl; exact rfl; exact tyOk rfl; (iterate 4 exact rfl); (simp only [List.length_map, List.length_append, List.length_cons, List.length_nil] at *; omega)) | ((with_reducible apply qAV); exact rfl; exact rfl) | ((with_reducible apply qAJ); exact rfl; exact rfl; omega; omega)) | ((with_reducible apply rp1); ((with_reducible apply qAk); exact tyOk rfl; exact rfl)) | ((with_reducible apply rpN); ((with_reducible apply qAb); exact tyOk rfl; (iterate 5 exact rfl))) | ((with_reducible apply qA9); exact rfl; exact rfl))
        refine ⟨_, _, ?_, ?_, k + 1, by omega, rfl, rfl⟩
        · omega
        · refine qAx [] (by repeat' (first | exact qAI | (refine qAD rfl (by exact SubA.refl _) ?_))) (by repeat' exact trivial) rfl (by repeat' (first | exact trivial | refine And.intro ?_ ?_)) (by repeat' (first | exact trivial | refine And.intro ?_ ?_))
      · have hke : k = l.length := by simp at hd; omega
        clear hd
        subst hke
        repeat (first | (with_reducible first | apply qAj | apply qAh | apply qAi | apply qAg | apply qBd | apply qBa | apply qBc | apply qAu | apply qAy) | ((with_reducible apply rp); ((with_reducible apply qAa); (conv => lhs; whnf))))
        (with_reducible apply qAz); (focus (repeat' (first | (with_reducible apply qAw) | (with_reducible apply qAr) | ((with_reducible apply qAB); exact rfl)))); exact rfl; refine SubD.of_eq ?_
        rfl
theorem qE0 (x : Ex) (hok : x.ok) (hd : x.deep ≤ 7) (hn : x.num ≤ 40) : PC Tryd.prog 49 [.ag x.cs] (iD 0) := by
  have s1 := size_pc x.deep x 1 (Nat.le_refl _) (by omega) hn
  have n1 := nodes_pc x.deep x (Nat.le_refl _) hok
  clear hok hd hn
  generalize x.num = xn at *
  rw [Ex.cs_eq] at *
  refine qAs Tryd.func49 rfl (by kernel_rfl) mixed (by kernel_rfl) (qle (by kernel_rfl)) Tryd.results49 ?_
  repeat (first | (with_reducible first | apply qAj | apply qAh | apply qAi | apply qAg | apply qAu | apply qAy | apply qAm) | ((with_reducible apply rp); first | ((with_reducible apply qAf); exact rfl; exact rfl; exact (s1); exact rfl) | ((with_reducible apply qAf); exact rfl; exact rfl; exact (n1); exact rfl) | ((with_reducible apply qAd); (conv => lhs; whnf)) | ((with_reducible apply qAa); (conv => lhs; whnf)) | ((with_reducible apply qAl); exact tyOk rfl; (iterate 3 exact rfl); exact qle rfl; exact rfl) | ((with_reducible apply qAX); exact rfl) | ((with_reducible apply qAv); exact rfl; exact rfl)) | ((with_reducible apply rp1); ((with_reducible apply qAn); exact rfl; exact rfl)) | ((with_reducible apply qA9); exact rfl; exact rfl))
  (with_reducible apply qAz); (focus (repeat' (first | (with_reducible apply qAw) | (with_reducible apply qAr) | ((with_reducible apply qAB); exact rfl)))); exact rfl; refine SubD.of_eq ?_
  rfl
end Go.Proofs.YtpaccaojgbfjdaaDoor

