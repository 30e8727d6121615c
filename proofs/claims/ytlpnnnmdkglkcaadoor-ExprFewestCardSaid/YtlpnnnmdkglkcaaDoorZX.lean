/-
  lex.Check of a name. No condition but that it is one.
-/
import Derived.Test.YtlpnnnmdkglkcaaDoorZEx
import Derived.Test.YtlpnnnmdkglkcaaDoorZTl
import Derived.Test.YtlpnnnmdkglkcaaDoorZG
import Derived.Test.YtlpnnnmdkglkcaaDoorZC
import Derived.Test.YtlpnnnmdkglkcaaDoorZVal
set_option linter.unusedSimpArgs false
set_option linter.unusedVariables false
namespace Go.Proofs.YtlpnnnmdkglkcaaDoor
open Go.RowKit

section
variable {P : Program} {dst : Option Nat} {ty : TypeId} {e : Operand → A} {β : Bx} {T T' : TypeId} {x y : Operand}
theorem qCk {a b : ByteArray} {c : Bool} (hx : e x = .d (strD a)) (hy : e y = .d (strD b)) (hc : (!(a.toList == b.toList)) = c) : Does P dst (.binOp .neq T x y T') ty e β (.d (bD c)) [] [] := by
  subst hc; exact qB6 hx hy
end
theorem small_pc (c : UInt8) : PC Tryd.prog 34 [u8D c] (bD (qFM c)) := by
  have e : qFM c = (decide ((c.toNat : Int) ≥ 97) && decide ((c.toNat : Int) ≤ 122)) := by unfold qFM; congr 1 <;> exact decide_eq_decide.2 (by omega)
  rw [e]
  refine qAS Tryd.func34 rfl (by kernel_rfl) mixed (by kernel_rfl) (qle (by kernel_rfl)) Tryd.results34 ?_
  repeat (first | ((first | (with_reducible apply rpGT) | (with_reducible apply drGT) | (with_reducible apply qAR) | (with_reducible apply qAQ)); eq_refl; exact qAE rfl; (first | eq_refl | assumption | decide); (focus repeat' (first | exact trivial | exact id | apply And.intro)); ((first | ((with_reducible first | apply qAe | apply qAd); (conv => lhs; whnf)) | ((with_reducible first | apply qAT | apply qBx | apply qDL) <;> first | eq_refl | exact id)); (first | exact qAb _ | exact qAm _ _ | exact qAk _ _ _ | exact qAl _ _ _ _))) | (with_reducible first | apply qAr | apply qAq | apply qAp | apply qAj | apply qAK | apply qA9) | ((first | (with_reducible apply rp) | ((with_reducible apply rpG); eq_refl; exact qAE rfl; (focus repeat' (first | exact trivial | exact id | apply And.intro)); intro zg; have zh := zg; (try simp only [zs1, zs2, zs3, zs4] at zg))); first | ((with_reducible first | apply qAe | apply qAd); (conv => lhs; whnf)) | ((with_reducible first | apply qAT | apply qBx | apply qDL) <;> first | eq_refl | exact id)))
  (with_reducible apply qA8); (focus (repeat' (first | (with_reducible apply qAJ) | (with_reducible apply qAD) | ((with_reducible apply qBb); eq_refl)))); eq_refl; refine SubD.of_eq ?_
  rfl
theorem digit_pc (c : UInt8) : PC Tryd.prog 54 [u8D c] (bD (digitB c)) := by
  have e : digitB c = (decide ((c.toNat : Int) ≥ 48) && decide ((c.toNat : Int) ≤ 57)) := by unfold digitB; congr 1 <;> exact decide_eq_decide.2 (by omega)
  rw [e]
  refine qAS Tryd.func54 rfl (by kernel_rfl) mixed (by kernel_rfl) (qle (by kernel_rfl)) Tryd.results54 ?_
  repeat (first | ((first | (with_reducible apply rpGT) | (with_reducible apply drGT) | (with_reducible apply qAR) | (with_reducible apply qAQ)); eq_refl; exact qAE rfl; (first | eq_refl | assumption | decide); (focus repeat' (first | exact trivial | exact id | apply And.intro)); ((first | ((with_reducible first | apply qAe | apply qAd); (conv => lhs; whnf)) | ((with_reducible first | apply qAT | apply qBx | apply qDL) <;> first | eq_refl | exact id)); (first | exact qAb _ | exact qAm _ _ | exact qAk _ _ _ | exact qAl _ _ _ _))) | (with_reducible first | apply qAr | apply qAq | apply qAp | apply qAj | apply qAK | apply qA9) | ((first | (with_reducible apply rp) | ((with_reducible apply rpG); eq_refl; exact qAE rfl; (focus repeat' (first | exact trivial | exact id | apply And.intro)); intro zg; have zh := zg; (try simp only [zs1, zs2, zs3, zs4] at zg))); first | ((with_reducible first | apply qAe | apply qAd); (conv => lhs; whnf)) | ((with_reducible first | apply qAT | apply qBx | apply qDL) <;> first | eq_refl | exact id)))
  (with_reducible apply qA8); (focus (repeat' (first | (with_reducible apply qAJ) | (with_reducible apply qAD) | ((with_reducible apply qBb); eq_refl)))); eq_refl; refine SubD.of_eq ?_
  rfl
theorem inName_pc (c : UInt8) : PC Tryd.prog 33 [u8D c] (bD (qFT c)) := by
  have s1 := small_pc c
  have d1 := digit_pc c
  have e : qFT c = ((qFM c || digitB c) || ((c.toNat : Int) == 95)) := by
    unfold qFT
    congr 1
    rw [Bool.eq_iff_iff, beq_iff_eq, beq_iff_eq]
    omega
  rw [e]
  refine qAS Tryd.func33 rfl (by kernel_rfl) mixed (by kernel_rfl) (qle (by kernel_rfl)) Tryd.results33 ?_
  repeat (first | ((first | (with_reducible apply rpGT) | (with_reducible apply drGT) | (with_reducible apply qAR) | (with_reducible apply qAQ)); eq_refl; exact qAu rfl; (first | eq_refl | assumption | decide); (focus repeat' (first | exact trivial | exact id | apply And.intro)); ((first | ((with_reducible apply qAc); eq_refl; eq_refl; (first | exact (s1) | exact (d1)); eq_refl) | ((with_reducible first | apply qAe | apply qAd); (conv => lhs; whnf)) | ((with_reducible first | apply qAU | apply qAC) <;> first | eq_refl | exact id)); (first | exact qAb _ | exact qAm _ _ | exact qAk _ _ _ | exact qAl _ _ _ _))) | (with_reducible first | apply qAr | apply qAq | apply qAp | apply qAj | apply qAK | apply qA9) | ((first | (with_reducible apply rp) | ((with_reducible apply rpG); eq_refl; exact qAu rfl; (focus repeat' (first | exact trivial | exact id | apply And.intro)); intro zg; have zh := zg; (try simp only [zs1, zs2, zs3, zs4] at zg))); first | ((with_reducible apply qAc); eq_refl; eq_refl; (first | exact (s1) | exact (d1)); eq_refl) | ((with_reducible first | apply qAe | apply qAd); (conv => lhs; whnf)) | ((with_reducible first | apply qAU | apply qAC) <;> first | eq_refl | exact id)))
  (with_reducible apply qA8); (focus (repeat' (first | (with_reducible apply qAJ) | (with_reducible apply qAD) | ((with_reducible apply qBb); eq_refl)))); eq_refl; refine SubD.of_eq ?_
  rfl
theorem name_nil {n : ByteArray} (h : qDO n) : (n.toList == (⟨#[]⟩ : ByteArray).toList) = false := by
  rw [beq_eq_false_iff_ne]
  intro e
  rw [ByteArray.toList_eq, ByteArray.toList_eq] at e
  unfold qDO at h
  rw [e] at h
  cases h
theorem name_get {n : ByteArray} (h : qDO n) : ∃ c l, n.data.toList = c :: l ∧ qFM c = true ∧ n.size ≤ 8 ∧ ∀ d ∈ n.data.toList, qFT d = true := by
  have hs : n.size = n.data.toList.length := by rw [Array.length_toList]; rfl
  unfold qDO at h
  cases hn : n.data.toList with
  | nil => rw [hn] at h; cases h
  | cons c l =>
    rw [hn] at h
    unfold nameB at h
    simp only [Bool.and_eq_true, decide_eq_true_eq] at h
    exact ⟨c, l, rfl, h.1.1, by rw [hs, hn]; exact h.1.2, List.all_eq_true.1 h.2⟩
set_option maxHeartbeats 1000000 in
theorem all_px (s : ByteArray) (h : qDO s) : PX Tryd.prog 32 [.d (strD s), .fn (.func 33) [] []] [] [] (bD true) [] [] := by
  obtain ⟨_, _, _, _, h8, hall⟩ := name_get h
  have hn := name_nil h
  refine qAW Tryd.func32 rfl (by kernel_rfl) mixed (by kernel_rfl) (qle (by kernel_rfl)) Tryd.results32 rfl ?_
  repeat (first | ((first | (with_reducible apply rpGT) | (with_reducible apply drGT) | (with_reducible apply qAR) | (with_reducible apply qAQ)); eq_refl; (first | exact qAE rfl | exact qAu rfl | exact qAy rfl | exact qAw rfl); (first | eq_refl | assumption | decide); (focus repeat' (first | exact trivial | exact id | apply And.intro | (intro h; (first | exact h | (simp only [Bool.and_eq_true] at h; (first | exact h.1 | exact h.1.1 | exact h.1.1.1 | exact h.2)) | (rw [h]; rfl) | (rw [zh, h]; rfl) | simp_all)))); ((first | ((with_reducible first | apply qAe | apply qAd); (conv => lhs; whnf)) | ((with_reducible apply qBp); exact tyOk rfl; eq_refl; eq_refl)); (first | exact qAb _ | exact qAm _ _ | exact qAk _ _ _ | exact qAl _ _ _ _))) | (with_reducible first | apply qAr | apply qAq | apply qAp | apply qAj | apply qAA) | ((with_reducible apply rp); first | ((with_reducible apply qAe); (conv => lhs; whnf)) | ((with_reducible apply qAd); (conv => lhs; whnf)) | ((with_reducible apply qBp); exact tyOk rfl; eq_refl; eq_refl)))
  refine qCh (fun m st => ∃ k, k ≤ s.size ∧ m = s.size - k ∧ st = ⟨[(0, .d (strD s)), (1, .fn (.func 33) [] []), (7, .d (iD s.size)), (8, .d (iD k))], []⟩) _ _ ?_ ⟨0, by omega, rfl, rfl⟩ ?_
  · refine qA7 [] (by repeat' (first | exact qAX | (refine qAN rfl (by exact SubA.refl _) ?_))) (kpX rfl) rfl (insS rfl) (insX rfl)
  · rintro m st ⟨k, hk, rfl, rfl⟩
    repeat (first | ((first | (with_reducible apply rpGT) | (with_reducible apply drGT) | (with_reducible apply qAR) | (with_reducible apply qAQ)); eq_refl; (first | exact qAE rfl | exact qAu rfl | exact qAy rfl | exact qAw rfl); (first | eq_refl | assumption | decide); (focus repeat' (first | exact trivial | exact id | apply And.intro | (intro h; (first | exact h | (simp only [Bool.and_eq_true] at h; (first | exact h.1 | exact h.1.1 | exact h.1.1.1 | exact h.2)) | (rw [h]; rfl) | (rw [zh, h]; rfl) | simp_all)))); ((first | ((with_reducible apply qA0); eq_refl; eq_refl)); (first | exact qAb _ | exact qAm _ _ | exact qAk _ _ _ | exact qAl _ _ _ _))) | (with_reducible first | apply qAr | apply qAq | apply qAp | apply qAj) | ((with_reducible apply rp); ((with_reducible apply qA0); eq_refl; eq_refl)))
    refine qAx rfl (fun hd => ?_) (fun hd => ?_)
    · have hlt : k < s.size := by simp at hd; omega
      clear hd
      have hb : s.data[k]? = some s.data[k] := Array.getElem?_eq_getElem hlt
      have hin := hall s.data[k] (Array.getElem_mem_toList hlt)
      have p1 := inName_pc s.data[k]
      rw [hin] at p1
      generalize s.data[k] = c at *
      repeat (first | ((first | (with_reducible apply rpGT) | (with_reducible apply drGT) | (with_reducible apply qAR) | (with_reducible apply qAQ)); eq_refl; (first | exact qAE rfl | exact qAu rfl | exact qAy rfl | exact qAw rfl); (first | eq_refl | assumption | decide); (focus repeat' (first | exact trivial | exact id | apply And.intro | (intro h; (first | exact h | (simp only [Bool.and_eq_true] at h; (first | exact h.1 | exact h.1.1 | exact h.1.1.1 | exact h.2)) | (rw [h]; rfl) | (rw [zh, h]; rfl) | simp_all)))); ((first | ((with_reducible apply qAc); eq_refl; eq_refl; exact (p1); eq_refl) | ((with_reducible first | apply qAe | apply qAd); (conv => lhs; whnf)) | ((with_reducible apply qBc); eq_refl) | ((with_reducible apply qCg); exact tyOk rfl; (iterate 4 eq_refl); assumption)); (first | exact qAb _ | exact qAm _ _ | exact qAk _ _ _ | exact qAl _ _ _ _))) | (with_reducible first | apply qAr | apply qAq | apply qAp | apply qAj | apply qAA | apply qAF) | ((with_reducible apply rp); first | ((with_reducible apply qAc); eq_refl; eq_refl; exact (p1); eq_refl) | ((with_reducible apply qAe); (conv => lhs; whnf)) | ((with_reducible apply qAd); (conv => lhs; whnf)) | ((with_reducible apply qBc); eq_refl) | ((with_reducible apply qCg); exact tyOk rfl; (iterate 4 eq_refl); assumption)))
      refine qAx rfl (fun hd => (by cases hd)) (fun hd => ?_)
      clear hd
      repeat (first | ((first | (with_reducible apply rpGT) | (with_reducible apply drGT) | (with_reducible apply qAR) | (with_reducible apply qAQ)); eq_refl; (first | exact qAE rfl | exact qAu rfl | exact qAy rfl | exact qAw rfl); (first | eq_refl | assumption | decide); (focus repeat' (first | exact trivial | exact id | apply And.intro | (intro h; (first | exact h | (simp only [Bool.and_eq_true] at h; (first | exact h.1 | exact h.1.1 | exact h.1.1.1 | exact h.2)) | (rw [h]; rfl) | (rw [zh, h]; rfl) | simp_all)))); ((first | ((with_reducible apply qAe); (conv => lhs; whnf)) | ((with_reducible apply qAV); eq_refl; eq_refl; omega; omega)); (first | exact qAb _ | exact qAm _ _ | exact qAk _ _ _ | exact qAl _ _ _ _))) | (with_reducible first | apply qAq | apply qAp | apply qAj | apply qA4 | apply qAF) | ((with_reducible apply rp); first | ((with_reducible apply qAe); (conv => lhs; whnf)) | ((with_reducible apply qAV); eq_refl; eq_refl; omega; omega)))
      refine ⟨_, _, ?_, ?_, k + 1, by omega, rfl, rfl⟩
      · omega
      · refine qA7 [] (by repeat' (first | exact qAX | (refine qAN rfl (by exact SubA.refl _) ?_))) (kpX rfl) rfl (insS rfl) (insX rfl)
    · have hke : k = s.size := by simp at hd; omega
      clear hd
      subst hke
      repeat (first | ((first | (with_reducible apply rpGT) | (with_reducible apply drGT) | (with_reducible apply qAR) | (with_reducible apply qAQ)); eq_refl; (first | exact qAE rfl | exact qAu rfl | exact qAy rfl | exact qAw rfl); (first | eq_refl | assumption | decide); (focus repeat' (first | exact trivial | exact id | apply And.intro | (intro h; (first | exact h | (simp only [Bool.and_eq_true] at h; (first | exact h.1 | exact h.1.1 | exact h.1.1.1 | exact h.2)) | (rw [h]; rfl) | (rw [zh, h]; rfl) | simp_all)))); ((first | (exact qCk (c := true) rfl rfl (by rw [hn]; rfl)) | ((with_reducible first | apply qAe | apply qAd); (conv => lhs; whnf))); (first | exact qAb _ | exact qAm _ _ | exact qAk _ _ _ | exact qAl _ _ _ _))) | (with_reducible first | apply qAr | apply qAq | apply qAp | apply qAj | apply qCb | apply qCd | apply qCc | apply qAK | apply qBi) | ((with_reducible apply rp); first | (exact qCk (c := true) rfl rfl (by rw [hn]; rfl)) | ((with_reducible apply qAe); (conv => lhs; whnf)) | ((with_reducible apply qAd); (conv => lhs; whnf))))
      (with_reducible apply qA1 (l := [])); (focus (repeat' (first | (with_reducible apply qAJ) | (with_reducible apply qAD) | ((with_reducible apply qBb); eq_refl)))); eq_refl; exact SubD.refl _; refine ⟨(by repeat' (first | exact qAX | (refine qAN rfl (by exact SubA.refl _) ?_))), (by repeat' exact trivial), rfl, insS rfl, (by repeat' (first | exact trivial | apply And.intro))⟩
set_option maxHeartbeats 1000000 in
theorem name_pc (n : ByteArray) (h : qDO n) : PC Tryd.prog 17 [.ag [iD 1, strD n, iD 0, qD 0]] (iD 0) := by
  obtain ⟨c, l, hc, hs, h8, _⟩ := name_get h
  have a1 := all_px n h
  have s1 := small_pc c
  rw [hs] at s1
  have hb : n.data[0]? = some c := by
    have : n.data.toList[0]? = some c := by rw [hc]; rfl
    rwa [Array.getElem?_toList] at this
  have hz : ¬ ((n.size : Int) > 8) := by omega
  refine qAS Tryd.func17 rfl (by kernel_rfl) mixed (by kernel_rfl) (qle (by kernel_rfl)) Tryd.results17 ?_
  repeat (first | ((first | (with_reducible apply rpGT) | (with_reducible apply drGT) | (with_reducible apply qAR) | (with_reducible apply qAQ)); eq_refl; exact qAu rfl; (first | eq_refl | assumption | decide); (focus repeat' (first | exact trivial | apply And.intro)); ((first | ((with_reducible first | apply qAe | apply qAd); (conv => lhs; whnf)) | ((with_reducible first | apply qAT | apply qAg | apply qAi | apply qA0 | apply qBm | apply qAv) <;> first | ((with_reducible apply tyOk); eq_refl) | eq_refl | exact trivial | decide)); (first | exact qAb _ | exact qAm _ _ | exact qAk _ _ _ | exact qAl _ _ _ _))) | (with_reducible first | apply qAr | apply qAq | apply qAp | apply qAj) | ((with_reducible apply rp); first | ((with_reducible apply qAe); (conv => lhs; whnf)) | ((with_reducible apply qAd); (conv => lhs; whnf)) | ((with_reducible apply qAT); (iterate 3 eq_refl); exact trivial) | ((with_reducible apply qAg); exact tyOk rfl; eq_refl; eq_refl; decide; eq_refl) | ((with_reducible apply qAi); exact tyOk rfl; (iterate 4 eq_refl)) | ((with_reducible apply qA0); eq_refl; eq_refl) | ((with_reducible apply qBm); eq_refl; eq_refl)) | ((with_reducible apply rp1); ((with_reducible apply qAv); eq_refl; eq_refl)))
  refine qAx rfl (fun hd => (by cases hd)) (fun hd => ?_)
  clear hd
  repeat (first | ((first | (with_reducible apply rpGT) | (with_reducible apply drGT) | (with_reducible apply qAR) | (with_reducible apply qAQ)); eq_refl; (first | exact qAE rfl | exact qAu rfl); (first | eq_refl | assumption | decide); (focus repeat' (first | exact trivial | exact id | apply And.intro | (intro h; simp_all))); ((first | ((with_reducible apply qAe); (conv => lhs; whnf)) | ((with_reducible apply qAT); (iterate 3 eq_refl); (first | exact trivial | exact id)) | ((with_reducible apply qAU); (iterate 3 eq_refl); (first | exact trivial | exact id)) | ((with_reducible first | apply qAg | apply qAi | apply qAC | apply qBm | apply qBp) <;> first | ((with_reducible apply tyOk); eq_refl) | eq_refl | decide)); (first | exact qAb _ | exact qAm _ _ | exact qAk _ _ _ | exact qAl _ _ _ _))) | (with_reducible first | apply qAr | apply qAq | apply qAp | apply qAj | apply qAF) | ((first | (with_reducible apply rp) | ((with_reducible apply rpG); eq_refl; (first | exact qAE rfl | exact qAu rfl); (focus repeat' (first | exact trivial | exact id | apply And.intro | (intro h; simp_all))); intro zg; have zh := zg; (try simp only [zs1, zs2, zs3, zs4] at zg))); first | ((with_reducible apply qAe); (conv => lhs; whnf)) | ((with_reducible apply qAT); (iterate 3 eq_refl); (first | exact trivial | exact id)) | ((with_reducible apply qAU); (iterate 3 eq_refl); (first | exact trivial | exact id)) | ((with_reducible first | apply qAg | apply qAi | apply qAC | apply qBm | apply qBp) <;> first | ((with_reducible apply tyOk); eq_refl) | eq_refl | decide)) | ((first | (with_reducible apply rpGP) | (with_reducible apply drGP)); eq_refl; (first | exact qAE rfl | exact qAu rfl); (focus repeat' (first | exact trivial | exact id | apply And.intro | (intro h; simp_all))); (intro zg; have zh := zg; (try simp only [zs1, zs2, zs3, zs4] at zg); first | ((with_reducible apply qAU); (iterate 3 eq_refl); (first | exact trivial | exact id)) | ((with_reducible apply qAT); (iterate 3 eq_refl); (first | exact trivial | exact id)))))
  refine qAx rfl (fun hd => absurd hd (by simp; omega)) (fun hd => ?_)
  clear hd
  repeat (first | ((first | (with_reducible apply rpGT) | (with_reducible apply drGT) | (with_reducible apply qAR) | (with_reducible apply qAQ)); eq_refl; (first | exact qAE rfl | exact qAu rfl); (first | eq_refl | assumption | decide); (focus repeat' (first | exact trivial | exact id | apply And.intro | (intro h; simp_all))); ((first | ((with_reducible apply qAe); (conv => lhs; whnf)) | ((with_reducible apply qAT); (iterate 3 eq_refl); (first | exact trivial | exact id)) | ((with_reducible apply qAU); (iterate 3 eq_refl); (first | exact trivial | exact id)) | ((with_reducible first | apply qAg | apply qAi | apply qAC | apply qBa) <;> first | ((with_reducible apply tyOk); eq_refl) | eq_refl | decide) | ((with_reducible apply qB6); eq_refl; eq_refl)); (first | exact qAb _ | exact qAm _ _ | exact qAk _ _ _ | exact qAl _ _ _ _))) | (with_reducible first | apply qAr | apply qAq | apply qAp | apply qAj | apply qAF) | ((first | (with_reducible apply rp) | ((with_reducible apply rpG); eq_refl; (first | exact qAE rfl | exact qAu rfl); (focus repeat' (first | exact trivial | exact id | apply And.intro | (intro h; simp_all))); intro zg; have zh := zg; (try simp only [zs1, zs2, zs3, zs4] at zg))); first | ((with_reducible apply qAe); (conv => lhs; whnf)) | ((with_reducible apply qAT); (iterate 3 eq_refl); (first | exact trivial | exact id)) | ((with_reducible apply qAU); (iterate 3 eq_refl); (first | exact trivial | exact id)) | ((with_reducible first | apply qAg | apply qAi | apply qAC | apply qBa) <;> first | ((with_reducible apply tyOk); eq_refl) | eq_refl | decide) | ((with_reducible apply qB6); eq_refl; eq_refl)) | ((first | (with_reducible apply rpGP) | (with_reducible apply drGP)); eq_refl; (first | exact qAE rfl | exact qAu rfl); (focus repeat' (first | exact trivial | exact id | apply And.intro | (intro h; simp_all))); (intro zg; have zh := zg; (try simp only [zs1, zs2, zs3, zs4] at zg); first | ((with_reducible apply qAU); (iterate 3 eq_refl); (first | exact trivial | exact id)) | ((with_reducible apply qAT); (iterate 3 eq_refl); (first | exact trivial | exact id)))))
  refine qAx rfl (fun hd => absurd hd (by simp)) (fun hd => ?_)
  clear hd
  repeat (first | ((first | (with_reducible apply rpGT) | (with_reducible apply drGT) | (with_reducible apply qAR) | (with_reducible apply qAQ)); eq_refl; (first | exact qAE rfl | exact qAu rfl | exact qAy rfl | exact qAw rfl); (first | eq_refl | assumption | decide); (focus repeat' (first | exact trivial | exact id | apply And.intro | (intro h; (first | exact h | (simp only [Bool.and_eq_true] at h; (first | exact h.1 | exact h.1.1 | exact h.1.1.1 | exact h.2)) | (rw [h]; rfl) | (rw [zh, h]; rfl) | simp_all)))); ((first | ((with_reducible apply qAd); (conv => lhs; whnf)) | ((with_reducible first | apply qAg | apply qAi | apply qAC) <;> first | ((with_reducible apply tyOk); eq_refl) | eq_refl | decide)); (first | exact qAb _ | exact qAm _ _ | exact qAk _ _ _ | exact qAl _ _ _ _))) | (with_reducible first | apply qAr | apply qAq | apply qAp | apply qAj | apply qAA | apply qAF) | ((with_reducible apply rp); first | ((with_reducible apply qAd); (conv => lhs; whnf)) | ((with_reducible apply qAg); exact tyOk rfl; eq_refl; eq_refl; decide; eq_refl) | ((with_reducible apply qAi); exact tyOk rfl; (iterate 4 eq_refl)) | ((with_reducible apply qAC); eq_refl; eq_refl)))
  refine qAx rfl (fun hd => ?_) (fun hd => (by cases hd))
  clear hd
  repeat (first | ((first | (with_reducible apply rpGT) | (with_reducible apply drGT) | (with_reducible apply qAR) | (with_reducible apply qAQ)); eq_refl; exact qAE rfl; (first | eq_refl | assumption | decide); (focus repeat' (first | exact trivial | apply And.intro)); (first | ((refine qAa [] [] (ups := []) rfl (a1) rfl (kpX rfl) rfl (insX rfl) (insQ rfl) rfl rfl rfl rfl rfl (insX rfl) rfl rfl); (first | exact qAb _ | exact qAm _ _ | exact qAk _ _ _ | exact qAl _ _ _ _)) | ((first | ((with_reducible apply qAc); eq_refl; eq_refl; exact (s1); eq_refl) | ((with_reducible first | apply qAe | apply qAd); (conv => lhs; whnf)) | ((with_reducible first | apply qAT | apply qAg | apply qAi | apply qBc) <;> first | ((with_reducible apply tyOk); eq_refl) | eq_refl | exact trivial | decide) | ((with_reducible apply qCg); exact tyOk rfl; (iterate 4 eq_refl); assumption)); (first | exact qAb _ | exact qAm _ _ | exact qAk _ _ _ | exact qAl _ _ _ _)))) | (with_reducible first | apply qAr | apply qAq | apply qAp | apply qAj | apply qA4) | ((with_reducible apply rp); first | ((with_reducible apply qAc); eq_refl; eq_refl; exact (s1); eq_refl) | ((with_reducible apply qAe); (conv => lhs; whnf)) | ((with_reducible apply qAd); (conv => lhs; whnf)) | ((with_reducible apply qAT); (iterate 3 eq_refl); exact trivial) | ((with_reducible apply qAg); exact tyOk rfl; eq_refl; eq_refl; decide; eq_refl) | ((with_reducible apply qAi); exact tyOk rfl; (iterate 4 eq_refl)) | ((with_reducible apply qBc); eq_refl) | ((with_reducible apply qCg); exact tyOk rfl; (iterate 4 eq_refl); assumption)) | ((with_reducible apply rpL); (refine qAa [] [] (ups := []) rfl (a1) rfl (kpX rfl) rfl (insX rfl) (insQ rfl) rfl rfl rfl rfl rfl (insX rfl) rfl rfl); exact qAb _))
  refine qAx rfl (fun hd => (by cases hd)) (fun hd => ?_)
  clear hd
  repeat (first | ((first | (with_reducible apply rpGT) | (with_reducible apply drGT) | (with_reducible apply qAR) | (with_reducible apply qAQ)); eq_refl; (first | exact qAE rfl | exact qAu rfl | exact qAy rfl | exact qAw rfl); (first | eq_refl | assumption | decide); (focus repeat' (first | exact trivial | exact id | apply And.intro | (intro h; (first | exact h | (simp only [Bool.and_eq_true] at h; (first | exact h.1 | exact h.1.1 | exact h.1.1.1 | exact h.2)) | (rw [h]; rfl) | (rw [zh, h]; rfl) | simp_all)))); ((first | ((with_reducible apply qAd); (conv => lhs; whnf))); (first | exact qAb _ | exact qAm _ _ | exact qAk _ _ _ | exact qAl _ _ _ _))) | (with_reducible first | apply qAr | apply qAq | apply qAp | apply qAj | apply qAK | apply qA9 | apply qAF) | ((with_reducible apply rp); ((with_reducible apply qAd); (conv => lhs; whnf))))
  (with_reducible apply qA8); (focus (repeat' (first | (with_reducible apply qAJ) | (with_reducible apply qAD) | ((with_reducible apply qBb); eq_refl)))); eq_refl; refine SubD.of_eq ?_
  rfl
end Go.Proofs.YtlpnnnmdkglkcaaDoor


/-
  expr.size, wants, node, nodes, Check of an expression that may be. No condition but its size.
-/
namespace Go.Proofs.YtlpnnnmdkglkcaaDoor
open Go.RowKit

abbrev argsD (l : List Ex) : D := .sl 7 (l.map Ex.cs)
set_option maxHeartbeats 1000000 in
theorem size_pc : ∀ (f : Nat) (x : Ex) (d : Nat), x.deep ≤ f → d + x.deep ≤ 8 → x.num ≤ 40 → PC Tryd.prog 45 [.ag x.cs, iD d] (.tu [iD x.num, bD true])
  | 0, x, d, hf, _, _ => absurd hf (by have := x.deep_pos; omega)
  | f + 1, x, d, hf, hd8, hn => by
    have ih := size_pc f
    have hdp := fun a => Ex.deep_arg (x := x) (a := a)
    have hxp := x.deep_pos
    have hnum := x.num_eq
    have hal := x.args_len
    have hn2 : 1 + numL x.args ≤ 40 := by omega
    rw [hnum, Ex.cs_eq]
    clear hn hnum
    generalize x.op = op
    generalize x.val = v
    generalize x.nam = nm
    generalize x.args = l at *
    refine qAS Tryd.func45 rfl (by kernel_rfl) mixed (by kernel_rfl) (qle (by kernel_rfl)) Tryd.results45 ?_
    repeat (first | (with_reducible first | apply qAr | apply qAq | apply qAp | apply qAj) | ((with_reducible apply rp); first | ((with_reducible apply qAe); (conv => lhs; whnf)) | ((with_reducible apply qAd); (conv => lhs; whnf)) | ((with_reducible apply qBm); eq_refl; eq_refl)) | ((with_reducible apply rp1); ((with_reducible apply qAv); eq_refl; eq_refl)))
    refine qAx rfl (fun hd => absurd hd (by simp; omega)) (fun hd => ?_)
    clear hd
    repeat (first | (with_reducible first | apply qAr | apply qAq | apply qAp | apply qAj | apply qAA | apply qAF) | ((with_reducible apply rp); first | ((with_reducible apply qAe); (conv => lhs; whnf)) | ((with_reducible apply qAd); (conv => lhs; whnf)) | ((with_reducible apply qAg); exact tyOk rfl; eq_refl; eq_refl; decide; eq_refl) | ((with_reducible apply qAi); exact tyOk rfl; (iterate 4 eq_refl)) | ((with_reducible apply qAB); exact tyOk rfl; eq_refl; eq_refl)))
    refine qCh (fun m s => ∃ k, k ≤ l.length ∧ m = l.length - k ∧ s = ⟨[(1, .d (iD d)), (6, .d (iD (1 + numL (l.take k) : Nat))), (14, .d (argsD l)), (15, .d (iD l.length)), (16, .d (iD k))], []⟩) _ _ ?_ ⟨0, by omega, rfl, rfl⟩ ?_
    · refine qA7 [] (by repeat' (first | exact qAX | (refine qAN rfl (by exact SubA.refl _) ?_))) (kpX rfl) rfl (insS rfl) (insX rfl)
    · rintro m s ⟨k, hk, rfl, rfl⟩
      repeat (first | (with_reducible first | apply qAr | apply qAq | apply qAp | apply qAj) | ((with_reducible apply rp); ((with_reducible apply qA0); eq_refl; eq_refl)))
      refine qAx rfl (fun hd => ?_) (fun hd => ?_)
      · have hlt : k < l.length := by simp at hd; omega
        clear hd
        obtain ⟨a, ha⟩ : ∃ a, l[k]? = some a := ⟨_, List.getElem?_eq_getElem hlt⟩
        have ha2 : (l.map Ex.cs)[k]? = some a.cs := by rw [List.getElem?_map, ha]; rfl
        have hm := hdp a (List.mem_of_getElem? ha)
        have ht : numL (l.take (k + 1)) = numL (l.take k) + a.num := by rw [List.take_add_one, ha, numL_app]; rfl
        have hle := numL_le l (k + 1)
        have p1 := ih a (d + 1) (by omega) (by omega) (by omega)
        have hcl := a.cs_eq
        generalize a.num = an at *
        generalize numL (l.take k) = q at *
        generalize a.cs = acs at *
        subst hcl
        repeat (first | (with_reducible first | apply qAr | apply qAq | apply qAp | apply qAj | apply qAA | apply qAF) | ((first | (with_reducible apply rp) | ((with_reducible apply rpG); eq_refl; exact qAu rfl; (focus repeat' (first | exact trivial | exact id | apply And.intro)); intro zg; have zh := zg; (try simp only [zs1, zs2, zs3, zs4] at zg))); first | ((with_reducible apply qAc); eq_refl; eq_refl; exact (p1); eq_refl) | ((with_reducible first | apply qAe | apply qAd); (conv => lhs; whnf)) | ((with_reducible first | apply qAU | apply qAn | apply qBm | apply qBc | apply qA3) <;> first | ((with_reducible apply tyOk); eq_refl) | eq_refl | exact qle rfl | exact id) | ((with_reducible apply qAo); exact tyOk rfl; eq_refl; eq_refl; assumption; eq_refl) | ((with_reducible apply qAz); exact tyOk rfl; eq_refl; exact tyOk rfl; (iterate 4 eq_refl); (simp only [List.length_map, List.length_append, List.length_cons, List.length_nil] at *; omega)) | ((with_reducible apply qAV); eq_refl; eq_refl; omega; omega)) | ((with_reducible apply rp1); ((with_reducible apply qAh); exact tyOk rfl; eq_refl)) | ((with_reducible apply rpN); ((with_reducible apply qAf); exact tyOk rfl; (iterate 5 eq_refl))))
        refine qAx rfl (fun hd => absurd hd (by simp; omega)) (fun hd => ?_)
        clear hd
        repeat (first | (with_reducible first | apply qAq | apply qAp | apply qAj | apply qA4 | apply qAF) | ((with_reducible apply rp); first | ((with_reducible apply qAe); (conv => lhs; whnf)) | ((with_reducible apply qAV); eq_refl; eq_refl; omega; omega)))
        refine ⟨_, _, ?_, ?_, k + 1, by omega, rfl, rfl⟩
        · omega
        · rw [ht, ← Nat.add_assoc]
          refine qA7 [] (by repeat' (first | exact qAX | (refine qAN rfl (by exact SubA.refl _) ?_))) (kpX rfl) rfl (insS rfl) (insX rfl)
      · have hke : k = l.length := by simp at hd; omega
        clear hd
        subst hke
        repeat (first | (with_reducible first | apply qAr | apply qAq | apply qAp | apply qAj | apply qCb | apply qCd | apply qCc | apply qAK | apply qA9) | ((with_reducible apply rp); first | ((with_reducible apply qAe); (conv => lhs; whnf)) | ((with_reducible apply qAd); (conv => lhs; whnf))))
        (with_reducible apply qA8); (focus (repeat' (first | (with_reducible apply qAJ) | (with_reducible apply qAD) | ((with_reducible apply qBb); eq_refl)))); eq_refl; refine SubD.of_eq ?_
        rw [List.take_length]
        rfl
theorem wants_leaf (op : Nat) (h : op = 1 ∨ op = 2) : PC Tryd.prog 92 [iD op] (iD 0) := by
  rcases h with rfl | rfl
  · refine qAS Tryd.func92 rfl (by kernel_rfl) mixed (by kernel_rfl) (qle (by kernel_rfl)) Tryd.results92 ?_
    repeat (first | (with_reducible first | apply qAr | apply qAq | apply qAp | apply qAj | apply qAA | apply qAK | apply qBg | apply qBw | apply qA9 | apply qAF) | ((with_reducible apply rp); first | ((with_reducible apply qAe); (conv => lhs; whnf)) | ((with_reducible apply qAd); (conv => lhs; whnf)) | ((with_reducible apply qAC); eq_refl; eq_refl)) | ((with_reducible apply qBK); eq_refl; eq_refl))
    (with_reducible apply qA8); (focus (repeat' (first | (with_reducible apply qAJ) | (with_reducible apply qAD) | ((with_reducible apply qBb); eq_refl)))); eq_refl; refine SubD.of_eq ?_
    rfl
  · refine qAS Tryd.func92 rfl (by kernel_rfl) mixed (by kernel_rfl) (qle (by kernel_rfl)) Tryd.results92 ?_
    repeat (first | (with_reducible first | apply qAr | apply qAq | apply qAp | apply qAj | apply qAA | apply qAK | apply qBg | apply qBw | apply qA9) | ((with_reducible apply rp); first | ((with_reducible apply qAe); (conv => lhs; whnf)) | ((with_reducible apply qAd); (conv => lhs; whnf)) | ((with_reducible apply qAC); eq_refl; eq_refl)) | ((with_reducible apply qBI); eq_refl; eq_refl) | ((with_reducible apply qBK); eq_refl; eq_refl))
    (with_reducible apply qA8); (focus (repeat' (first | (with_reducible apply qAJ) | (with_reducible apply qAD) | ((with_reducible apply qBb); eq_refl)))); eq_refl; refine SubD.of_eq ?_
    rfl
theorem wants_un (op : Nat) (h : un1 op) : PC Tryd.prog 92 [iD op] (iD 1) := by
  rcases h with rfl | rfl | rfl | rfl
  · refine qAS Tryd.func92 rfl (by kernel_rfl) mixed (by kernel_rfl) (qle (by kernel_rfl)) Tryd.results92 ?_
    repeat (first | (with_reducible first | apply qAr | apply qAq | apply qAp | apply qAj | apply qAA | apply qAK | apply qBg | apply qBw | apply qA9 | apply qAF) | ((with_reducible apply rp); first | ((with_reducible apply qAe); (conv => lhs; whnf)) | ((with_reducible apply qAd); (conv => lhs; whnf)) | ((with_reducible apply qAC); eq_refl; eq_refl)) | ((with_reducible apply qBI); eq_refl; eq_refl) | ((with_reducible apply qBK); eq_refl; eq_refl))
    (with_reducible apply qA8); (focus (repeat' (first | (with_reducible apply qAJ) | (with_reducible apply qAD) | ((with_reducible apply qBb); eq_refl)))); eq_refl; refine SubD.of_eq ?_
    rfl
  · refine qAS Tryd.func92 rfl (by kernel_rfl) mixed (by kernel_rfl) (qle (by kernel_rfl)) Tryd.results92 ?_
    repeat (first | (with_reducible first | apply qAr | apply qAq | apply qAp | apply qAj | apply qAA | apply qAK | apply qBg | apply qBw | apply qA9 | apply qAF) | ((with_reducible apply rp); first | ((with_reducible apply qAe); (conv => lhs; whnf)) | ((with_reducible apply qAd); (conv => lhs; whnf)) | ((with_reducible apply qAC); eq_refl; eq_refl)) | ((with_reducible apply qBI); eq_refl; eq_refl) | ((with_reducible apply qBK); eq_refl; eq_refl))
    (with_reducible apply qA8); (focus (repeat' (first | (with_reducible apply qAJ) | (with_reducible apply qAD) | ((with_reducible apply qBb); eq_refl)))); eq_refl; refine SubD.of_eq ?_
    rfl
  · refine qAS Tryd.func92 rfl (by kernel_rfl) mixed (by kernel_rfl) (qle (by kernel_rfl)) Tryd.results92 ?_
    repeat (first | (with_reducible first | apply qAr | apply qAq | apply qAp | apply qAj | apply qAA | apply qAK | apply qBg | apply qBw | apply qA9 | apply qAF) | ((with_reducible apply rp); first | ((with_reducible apply qAe); (conv => lhs; whnf)) | ((with_reducible apply qAd); (conv => lhs; whnf)) | ((with_reducible apply qAC); eq_refl; eq_refl)) | ((with_reducible apply qBI); eq_refl; eq_refl) | ((with_reducible apply qBK); eq_refl; eq_refl))
    (with_reducible apply qA8); (focus (repeat' (first | (with_reducible apply qAJ) | (with_reducible apply qAD) | ((with_reducible apply qBb); eq_refl)))); eq_refl; refine SubD.of_eq ?_
    rfl
  · refine qAS Tryd.func92 rfl (by kernel_rfl) mixed (by kernel_rfl) (qle (by kernel_rfl)) Tryd.results92 ?_
    repeat (first | (with_reducible first | apply qAr | apply qAq | apply qAp | apply qAj | apply qAA | apply qAK | apply qBg | apply qBw | apply qA9) | ((with_reducible apply rp); first | ((with_reducible apply qAe); (conv => lhs; whnf)) | ((with_reducible apply qAd); (conv => lhs; whnf)) | ((with_reducible apply qAC); eq_refl; eq_refl)) | ((with_reducible apply qBI); eq_refl; eq_refl) | ((with_reducible apply qBK); eq_refl; eq_refl))
    (with_reducible apply qA8); (focus (repeat' (first | (with_reducible apply qAJ) | (with_reducible apply qAD) | ((with_reducible apply qBb); eq_refl)))); eq_refl; refine SubD.of_eq ?_
    rfl
theorem wants_bi (op : Nat) (h : bi2 op) : PC Tryd.prog 92 [iD op] (iD 2) := by
  obtain ⟨h1, h2, h3, h4⟩ := h
  refine qAS Tryd.func92 rfl (by kernel_rfl) mixed (by kernel_rfl) (qle (by kernel_rfl)) Tryd.results92 ?_
  repeat (first | (with_reducible first | apply qAr | apply qAq | apply qAp | apply qAj | apply qAA | apply qA4 | apply qAK | apply qA9 | apply qAF) | ((with_reducible apply rp); first | ((with_reducible apply qAe); (conv => lhs; whnf)) | ((with_reducible apply qAd); (conv => lhs; whnf)) | ((with_reducible apply qAC); eq_refl; eq_refl)) | ((with_reducible apply qAx); eq_refl; (focus (intro hd; (exfalso; simp at hd; omega))); (intro hd; clear hd)))
  (with_reducible apply qA8); (focus (repeat' (first | (with_reducible apply qAJ) | (with_reducible apply qAD) | ((with_reducible apply qBb); eq_refl)))); eq_refl; refine SubD.of_eq ?_
  rfl
end Go.Proofs.YtlpnnnmdkglkcaaDoor


/-
  expr.node, nodes, Check of an expression that may be. No condition but its size.
-/
namespace Go.Proofs.YtlpnnnmdkglkcaaDoor
open Go.RowKit

theorem check_0 : PC Tryd.prog 37 [.ag [iD 0, iD 0, qD 0, strD .empty]] (iD 0) := by
  have c1 := check_pc ⟨0, 0, 0, .empty⟩ (by show ByteArray.empty.size ≤ _; decide)
  rw [Gd.null.chk] at c1
  exact c1
set_option maxHeartbeats 1000000 in
theorem node_lit (v : Vl) (hv : Gd v) (h0 : 0 ≤ v.n) : PC Tryd.prog 75 [.ag (Ex.lit v).cs] (iD 0) := by
  have c1 := check_pc v (by have := hv.size; omega)
  rw [hv.chk] at c1
  have w1 := wants_leaf 1 (.inl rfl)
  obtain ⟨k, n, b, t⟩ := v
  unfold Ex.cs Vl.cs at *
  dsimp only at *
  refine qAS Tryd.func75 rfl (by kernel_rfl) mixed (by kernel_rfl) (qle (by kernel_rfl)) Tryd.results75 ?_
  repeat (first | (with_reducible first | apply qAr | apply qAq | apply qAp | apply qAj | apply qBD | apply qAK | apply qA9 | apply qAF) | ((with_reducible apply qBQ); (first | kernel_rfl | eq_refl)) | ((first | (with_reducible first | apply rp | apply dr) | ((with_reducible apply rpG); eq_refl; (first | exact qAE rfl | exact qAu rfl | exact qAy rfl | exact qAw rfl); (focus repeat' (first | exact trivial | exact id | apply And.intro | (intro h; simp_all))); intro zg; have zh := zg; (try simp only [zs1, zs2, zs3, zs4] at zg))); first | ((with_reducible apply qAc); eq_refl; eq_refl; (first | exact (w1) | exact (c1)); eq_refl) | (exact qCk (c := false) rfl rfl (by rw [qFA]; rfl)) | ((with_reducible first | apply qAe | apply qAd); (conv => lhs; whnf)) | ((with_reducible apply qAT); (iterate 3 eq_refl); (first | exact trivial | exact id)) | ((with_reducible apply qAU); (iterate 3 eq_refl); (first | exact trivial | exact id)) | ((with_reducible apply qCI); eq_refl; (first | assumption | decide); (conv => lhs; whnf)) | ((with_reducible first | apply qAg | apply qAi | apply qAC | apply qBa | apply qA0 | apply qBm | apply qBM | apply qBE) <;> first | ((with_reducible apply tyOk); eq_refl) | eq_refl | decide) | ((with_reducible apply qAn); exact tyOk rfl; (iterate 3 eq_refl); exact qle rfl; eq_refl) | ((with_reducible apply qDB); eq_refl; eq_refl; exact tgOk rfl; eq_refl) | ((with_reducible apply qFh); exact tyOk rfl; (iterate 4 eq_refl)) | ((with_reducible apply qAG); exact tyOk rfl; eq_refl; eq_refl; (focus repeat' (first | eq_refl | refine ⟨_, _, rfl, rfl, qle rfl, rfl, ?_⟩)); eq_refl)) | ((with_reducible apply rp1); ((with_reducible apply qAv); eq_refl; eq_refl)) | ((with_reducible apply qAx); eq_refl; (focus (intro hd; (first | (cases hd; done) | (exfalso; simp at hd; omega)))); (intro hd; clear hd)) | ((first | (with_reducible apply rpGF) | (with_reducible apply drGF)); eq_refl; (first | exact qAE rfl | exact qAu rfl | exact qAy rfl | exact qAw rfl); (first | assumption | decide | eq_refl); (focus repeat' (first | exact trivial | exact id | apply And.intro | (intro h; simp_all)))) | ((first | (with_reducible apply rpGP) | (with_reducible apply drGP)); eq_refl; (first | exact qAE rfl | exact qAu rfl | exact qAy rfl | exact qAw rfl); (focus repeat' (first | exact trivial | exact id | apply And.intro | (intro h; simp_all))); (intro zg; have zh := zg; (try simp only [zs1, zs2, zs3, zs4] at zg); first | ((with_reducible apply qAU); (iterate 3 eq_refl); (first | exact trivial | exact id)) | ((with_reducible apply qAT); (iterate 3 eq_refl); (first | exact trivial | exact id)))))
  (with_reducible apply qA8); (focus (repeat' (first | (with_reducible apply qAJ) | (with_reducible apply qAD) | ((with_reducible apply qBb); eq_refl)))); eq_refl; refine SubD.of_eq ?_
  rfl
set_option maxHeartbeats 1000000 in
theorem node_col (n : ByteArray) (h : qDO n) : PC Tryd.prog 75 [.ag (Ex.col n).cs] (iD 0) := by
  have w1 := wants_leaf 2 (.inr rfl)
  have hn := name_nil h
  have n1 := name_pc n h
  have c1 := check_0
  unfold Ex.cs at *
  refine qAS Tryd.func75 rfl (by kernel_rfl) mixed (by kernel_rfl) (qle (by kernel_rfl)) Tryd.results75 ?_
  repeat (first | (with_reducible first | apply qAr | apply qAq | apply qAp | apply qAj | apply qBD | apply qAK | apply qA9 | apply qAF) | ((with_reducible apply qBQ); (first | kernel_rfl | eq_refl)) | ((first | (with_reducible first | apply rp | apply dr) | ((with_reducible apply rpG); eq_refl; (first | exact qAE rfl | exact qAu rfl | exact qAy rfl | exact qAw rfl); (focus repeat' (first | exact trivial | exact id | apply And.intro)); intro zg; have zh := zg; (try simp only [zs1, zs2, zs3, zs4] at zg))); first | ((with_reducible apply qAc); eq_refl; eq_refl; (first | exact (w1) | exact (n1) | exact (c1)); eq_refl) | (exact qCk (c := true) rfl rfl (by rw [hn]; rfl)) | ((with_reducible first | apply qAe | apply qAd); (conv => lhs; whnf)) | ((with_reducible apply qAT); (iterate 3 eq_refl); (first | exact trivial | exact id)) | ((with_reducible apply qAU); (iterate 3 eq_refl); (first | exact trivial | exact id)) | ((with_reducible first | apply qAg | apply qAi | apply qAC | apply qBa | apply qA0 | apply qBm | apply qBM | apply qBE) <;> first | ((with_reducible apply tyOk); eq_refl) | eq_refl | decide) | ((with_reducible apply qAn); exact tyOk rfl; (iterate 3 eq_refl); exact qle rfl; eq_refl) | ((with_reducible apply qDB); eq_refl; eq_refl; exact tgOk rfl; eq_refl) | ((with_reducible apply qFh); exact tyOk rfl; (iterate 4 eq_refl)) | ((with_reducible apply qAG); exact tyOk rfl; eq_refl; eq_refl; (focus repeat' (first | eq_refl | refine ⟨_, _, rfl, rfl, qle rfl, rfl, ?_⟩)); eq_refl)) | ((with_reducible apply rp1); ((with_reducible apply qAv); eq_refl; eq_refl)) | ((with_reducible apply qAx); eq_refl; (focus (intro hd; (first | (cases hd; done) | (exfalso; simp at hd; done)))); (intro hd; clear hd)))
  (with_reducible apply qA8); (focus (repeat' (first | (with_reducible apply qAJ) | (with_reducible apply qAD) | ((with_reducible apply qBb); eq_refl)))); eq_refl; refine SubD.of_eq ?_
  rfl
set_option maxHeartbeats 1000000 in
theorem node_un (op : Nat) (a : Ex) (h : un1 op) : PC Tryd.prog 75 [.ag (Ex.un op a).cs] (iD 0) := by
  have w1 := wants_un op h
  have c1 := check_0
  have hh : op = 3 ∨ op = 4 ∨ op = 17 ∨ op = 18 := h
  have ho2 : ((op : Int) == 2) = false := beq_eq_false_iff_ne.2 (by omega)
  unfold Ex.cs at *
  generalize a.cs = ac
  clear h
  refine qAS Tryd.func75 rfl (by kernel_rfl) mixed (by kernel_rfl) (qle (by kernel_rfl)) Tryd.results75 ?_
  repeat (first | (with_reducible first | apply qAr | apply qAq | apply qAp | apply qAj | apply qBD | apply qAK | apply qA9 | apply qAF) | ((with_reducible apply qBQ); (first | kernel_rfl | eq_refl)) | ((first | (with_reducible first | apply rp | apply dr) | ((with_reducible apply rpG); eq_refl; (first | exact qAE rfl | exact qAu rfl | exact qAy rfl | exact qAw rfl); (focus repeat' (first | exact trivial | exact id | apply And.intro | (intro h; (first | (rw [h]; rfl) | simp_all)))); intro zg; have zh := zg; (try simp only [zs1, zs2, zs3, zs4] at zg))); first | ((with_reducible apply qAc); eq_refl; eq_refl; (first | exact (w1) | exact (c1)); eq_refl) | (exact qCk (c := false) rfl rfl (by rw [qFA]; rfl)) | ((with_reducible first | apply qAe | apply qAd); (conv => lhs; whnf)) | ((with_reducible apply qAT); (iterate 3 eq_refl); (first | exact trivial | exact id | (intro h; (rw [zh, h]; rfl)))) | ((with_reducible apply qAU); (iterate 3 eq_refl); (first | exact trivial | exact id | (intro h; (rw [zh, h]; rfl)))) | ((with_reducible apply qCI); eq_refl; (first | assumption | decide); (conv => lhs; whnf)) | ((with_reducible first | apply qAg | apply qAi | apply qAC | apply qBa | apply qA0 | apply qBm | apply qBM | apply qBE) <;> first | ((with_reducible apply tyOk); eq_refl) | eq_refl | decide) | ((with_reducible apply qAn); exact tyOk rfl; (iterate 3 eq_refl); exact qle rfl; eq_refl) | ((with_reducible apply qDB); eq_refl; eq_refl; exact tgOk rfl; eq_refl) | ((with_reducible apply qFh); exact tyOk rfl; (iterate 4 eq_refl)) | ((with_reducible apply qAG); exact tyOk rfl; eq_refl; eq_refl; (focus repeat' (first | eq_refl | refine ⟨_, _, rfl, rfl, qle rfl, rfl, ?_⟩)); eq_refl)) | ((with_reducible apply rp1); ((with_reducible apply qAv); eq_refl; eq_refl)) | ((with_reducible apply qAx); eq_refl; (focus (intro hd; (first | (cases hd; done) | (exfalso; simp at hd; done) | (exfalso; simp at hd; omega)))); (intro hd; clear hd)) | ((first | (with_reducible apply rpGF) | (with_reducible apply drGF)); eq_refl; (first | exact qAE rfl | exact qAu rfl | exact qAy rfl | exact qAw rfl); (first | assumption | decide | eq_refl); (focus repeat' (first | exact trivial | exact id | apply And.intro | (intro h; (first | (rw [h]; rfl) | simp_all))))) | ((first | (with_reducible apply rpGP) | (with_reducible apply drGP)); eq_refl; (first | exact qAE rfl | exact qAu rfl | exact qAy rfl | exact qAw rfl); (focus repeat' (first | exact trivial | exact id | apply And.intro | (intro h; (first | (rw [h]; rfl) | simp_all)))); (intro zg; have zh := zg; (try simp only [zs1, zs2, zs3, zs4] at zg); first | ((with_reducible apply qAU); (iterate 3 eq_refl); (first | exact trivial | exact id | (intro h; (rw [zh, h]; rfl)))) | ((with_reducible apply qAT); (iterate 3 eq_refl); (first | exact trivial | exact id | (intro h; (rw [zh, h]; rfl)))))))
  (with_reducible apply qA8); (focus (repeat' (first | (with_reducible apply qAJ) | (with_reducible apply qAD) | ((with_reducible apply qBb); eq_refl)))); eq_refl; refine SubD.of_eq ?_
  rfl
set_option maxHeartbeats 1000000 in
theorem node_bi (op : Nat) (a b : Ex) (h : bi2 op) : PC Tryd.prog 75 [.ag (Ex.bi op a b).cs] (iD 0) := by
  have w1 := wants_bi op h
  have c1 := check_0
  obtain ⟨h1, h2, h3, h4⟩ := h
  have ho2 : ((op : Int) == 2) = false := beq_eq_false_iff_ne.2 (by omega)
  unfold Ex.cs at *
  generalize a.cs = ac
  generalize b.cs = bc
  refine qAS Tryd.func75 rfl (by kernel_rfl) mixed (by kernel_rfl) (qle (by kernel_rfl)) Tryd.results75 ?_
  repeat (first | (with_reducible first | apply qAr | apply qAq | apply qAp | apply qAj | apply qBD | apply qAK | apply qA9 | apply qAF) | ((with_reducible apply qBQ); (first | kernel_rfl | eq_refl)) | ((first | (with_reducible first | apply rp | apply dr) | ((with_reducible apply rpG); eq_refl; (first | exact qAE rfl | exact qAu rfl | exact qAy rfl | exact qAw rfl); (focus repeat' (first | exact trivial | exact id | apply And.intro | (intro h; (first | (rw [h]; rfl) | simp_all)))); intro zg; have zh := zg; (try simp only [zs1, zs2, zs3, zs4] at zg))); first | ((with_reducible apply qAc); eq_refl; eq_refl; (first | exact (w1) | exact (c1)); eq_refl) | (exact qCk (c := false) rfl rfl (by rw [qFA]; rfl)) | ((with_reducible first | apply qAe | apply qAd); (conv => lhs; whnf)) | ((with_reducible apply qAT); (iterate 3 eq_refl); (first | exact trivial | exact id | (intro h; (rw [zh, h]; rfl)))) | ((with_reducible apply qAU); (iterate 3 eq_refl); (first | exact trivial | exact id | (intro h; (rw [zh, h]; rfl)))) | ((with_reducible apply qCI); eq_refl; (first | assumption | decide); (conv => lhs; whnf)) | ((with_reducible first | apply qAg | apply qAi | apply qAC | apply qBa | apply qA0 | apply qBm | apply qBM | apply qBE) <;> first | ((with_reducible apply tyOk); eq_refl) | eq_refl | decide) | ((with_reducible apply qAn); exact tyOk rfl; (iterate 3 eq_refl); exact qle rfl; eq_refl) | ((with_reducible apply qDB); eq_refl; eq_refl; exact tgOk rfl; eq_refl) | ((with_reducible apply qFh); exact tyOk rfl; (iterate 4 eq_refl)) | ((with_reducible apply qAG); exact tyOk rfl; eq_refl; eq_refl; (focus repeat' (first | eq_refl | refine ⟨_, _, rfl, rfl, qle rfl, rfl, ?_⟩)); eq_refl)) | ((with_reducible apply rp1); ((with_reducible apply qAv); eq_refl; eq_refl)) | ((with_reducible apply qAx); eq_refl; (focus (intro hd; (first | (cases hd; done) | (exfalso; simp at hd; done) | (exfalso; simp at hd; omega)))); (intro hd; clear hd)) | ((first | (with_reducible apply rpGF) | (with_reducible apply drGF)); eq_refl; (first | exact qAE rfl | exact qAu rfl | exact qAy rfl | exact qAw rfl); (first | assumption | decide | eq_refl); (focus repeat' (first | exact trivial | exact id | apply And.intro | (intro h; (first | (rw [h]; rfl) | simp_all))))) | ((first | (with_reducible apply rpGP) | (with_reducible apply drGP)); eq_refl; (first | exact qAE rfl | exact qAu rfl | exact qAy rfl | exact qAw rfl); (focus repeat' (first | exact trivial | exact id | apply And.intro | (intro h; (first | (rw [h]; rfl) | simp_all)))); (intro zg; have zh := zg; (try simp only [zs1, zs2, zs3, zs4] at zg); first | ((with_reducible apply qAU); (iterate 3 eq_refl); (first | exact trivial | exact id | (intro h; (rw [zh, h]; rfl)))) | ((with_reducible apply qAT); (iterate 3 eq_refl); (first | exact trivial | exact id | (intro h; (rw [zh, h]; rfl)))))))
  (with_reducible apply qA8); (focus (repeat' (first | (with_reducible apply qAJ) | (with_reducible apply qAD) | ((with_reducible apply qBb); eq_refl)))); eq_refl; refine SubD.of_eq ?_
  rfl
theorem node_pc (x : Ex) (h : x.ok) : PC Tryd.prog 75 [.ag x.cs] (iD 0) := by
  cases x with
  | lit v => exact node_lit v h.1 h.2
  | col n => exact node_col n h
  | un op a => exact node_un op a h.1
  | bi op a b => exact node_bi op a b h.1
set_option maxHeartbeats 1000000 in
theorem nodes_pc : ∀ (f : Nat) (x : Ex), x.deep ≤ f → x.ok → PC Tryd.prog 46 [.ag x.cs] (iD 0)
  | 0, x, hf, _ => absurd hf (by have := x.deep_pos; omega)
  | f + 1, x, hf, hok => by
    have ih := nodes_pc f
    have hdp := fun a => Ex.deep_arg (x := x) (a := a)
    have hop := fun a => Ex.ok_arg (x := x) (a := a) hok
    have n1 := node_pc x hok
    have hal := x.args_len
    clear hok
    have hxd : x.deep ≤ f + 1 := hf
    generalize x.deep = xd at *
    rw [Ex.cs_eq] at *
    generalize x.op = op at *
    generalize x.val = v at *
    generalize x.nam = nm at *
    generalize x.args = l at *
    refine qAS Tryd.func46 rfl (by kernel_rfl) mixed (by kernel_rfl) (qle (by kernel_rfl)) Tryd.results46 ?_
    repeat (first | (with_reducible first | apply qAr | apply qAq | apply qAp | apply qAj | apply qAA | apply qAF) | ((with_reducible apply rp); first | ((with_reducible apply qAc); eq_refl; eq_refl; exact (n1); eq_refl) | ((with_reducible apply qAe); (conv => lhs; whnf)) | ((with_reducible apply qAd); (conv => lhs; whnf)) | ((with_reducible apply qAg); exact tyOk rfl; eq_refl; eq_refl; decide; eq_refl) | ((with_reducible apply qAi); exact tyOk rfl; (iterate 4 eq_refl)) | ((with_reducible apply qAn); exact tyOk rfl; (iterate 3 eq_refl); exact qle rfl; eq_refl) | ((with_reducible apply qBa); eq_refl; eq_refl) | ((with_reducible apply qAB); exact tyOk rfl; eq_refl; eq_refl)) | ((with_reducible apply rp1); ((with_reducible apply qAv); eq_refl; eq_refl)) | ((with_reducible apply qBI); eq_refl; eq_refl))
    refine qCh (fun m s => ∃ k, k ≤ l.length ∧ m = l.length - k ∧ s = ⟨[(13, .d (argsD l)), (14, .d (iD l.length)), (15, .d (iD k))], []⟩) _ _ ?_ ⟨0, by omega, rfl, rfl⟩ ?_
    · refine qA7 [] (by repeat' (first | exact qAX | (refine qAN rfl (by exact SubA.refl _) ?_))) (kpX rfl) rfl (insS rfl) (insX rfl)
    · rintro m s ⟨k, hk, rfl, rfl⟩
      repeat (first | (with_reducible first | apply qAr | apply qAq | apply qAp | apply qAj) | ((with_reducible apply rp); ((with_reducible apply qA0); eq_refl; eq_refl)))
      refine qAx rfl (fun hd => ?_) (fun hd => ?_)
      · have hlt : k < l.length := by simp at hd; omega
        clear hd n1
        obtain ⟨a, ha⟩ : ∃ a, l[k]? = some a := ⟨_, List.getElem?_eq_getElem hlt⟩
        have ha2 : (l.map Ex.cs)[k]? = some a.cs := by rw [List.getElem?_map, ha]; rfl
        have hm := hdp a (List.mem_of_getElem? ha)
        have p1 := ih a (by omega) (hop a (List.mem_of_getElem? ha))
        have hcl := a.cs_eq
        generalize a.cs = acs at *
        subst hcl
        repeat (first | (with_reducible first | apply qAr | apply qAq | apply qAp | apply qAj | apply qAA | apply qA4 | apply qAF) | ((with_reducible apply rp); first | ((with_reducible apply qAc); eq_refl; eq_refl; exact (p1); eq_refl) | ((with_reducible apply qAe); (conv => lhs; whnf)) | ((with_reducible apply qAd); (conv => lhs; whnf)) | ((with_reducible apply qAn); exact tyOk rfl; (iterate 3 eq_refl); exact qle rfl; eq_refl) | ((with_reducible apply qAo); exact tyOk rfl; eq_refl; eq_refl; assumption; eq_refl) | ((with_reducible apply qAz); exact tyOk rfl; eq_refl; exact tyOk rfl; (iterate 4 eq_refl); (simp only [List.length_map, List.length_append, List.length_cons, List.length_nil] at *; omega)) | ((with_reducible apply qBa); eq_refl; eq_refl) | ((with_reducible apply qAV); eq_refl; eq_refl; omega; omega)) | ((with_reducible apply rp1); ((with_reducible apply qAh); exact tyOk rfl; eq_refl)) | ((with_reducible apply rpN); ((with_reducible apply qAf); exact tyOk rfl; (iterate 5 eq_refl))) | ((with_reducible apply qBI); eq_refl; eq_refl))
        refine ⟨_, _, ?_, ?_, k + 1, by omega, rfl, rfl⟩
        · omega
        · refine qA7 [] (by repeat' (first | exact qAX | (refine qAN rfl (by exact SubA.refl _) ?_))) (kpX rfl) rfl (insS rfl) (insX rfl)
      · have hke : k = l.length := by simp at hd; omega
        clear hd
        subst hke
        repeat (first | (with_reducible first | apply qAr | apply qAq | apply qAp | apply qAj | apply qCb | apply qCd | apply qCc | apply qAK | apply qA9) | ((with_reducible apply rp); ((with_reducible apply qAd); (conv => lhs; whnf))))
        (with_reducible apply qA8); (focus (repeat' (first | (with_reducible apply qAJ) | (with_reducible apply qAD) | ((with_reducible apply qBb); eq_refl)))); eq_refl; refine SubD.of_eq ?_
        rfl
theorem expr_check (x : Ex) (hok : x.ok) (hd : x.deep ≤ 7) (hn : x.num ≤ 40) : PC Tryd.prog 27 [.ag x.cs] (iD 0) := by
  have s1 := size_pc x.deep x 1 (Nat.le_refl _) (by omega) hn
  have n1 := nodes_pc x.deep x (Nat.le_refl _) hok
  clear hok hd hn
  generalize x.num = xn at *
  rw [Ex.cs_eq] at *
  refine qAS Tryd.func27 rfl (by kernel_rfl) mixed (by kernel_rfl) (qle (by kernel_rfl)) Tryd.results27 ?_
  repeat (first | (with_reducible first | apply qAr | apply qAq | apply qAp | apply qAj | apply qAK | apply qA9 | apply qAF) | ((with_reducible apply rp); first | ((with_reducible apply qAc); eq_refl; eq_refl; exact (s1); eq_refl) | ((with_reducible apply qAc); eq_refl; eq_refl; exact (n1); eq_refl) | ((with_reducible apply qAe); (conv => lhs; whnf)) | ((with_reducible apply qAd); (conv => lhs; whnf)) | ((with_reducible apply qAn); exact tyOk rfl; (iterate 3 eq_refl); exact qle rfl; eq_refl) | ((with_reducible apply qBc); eq_refl) | ((with_reducible apply qA3); eq_refl; eq_refl)) | ((with_reducible apply rp1); ((with_reducible apply qAv); eq_refl; eq_refl)) | ((with_reducible apply qBI); eq_refl; eq_refl))
  (with_reducible apply qA8); (focus (repeat' (first | (with_reducible apply qAJ) | (with_reducible apply qAD) | ((with_reducible apply qBb); eq_refl)))); eq_refl; refine SubD.of_eq ?_
  rfl
end Go.Proofs.YtlpnnnmdkglkcaaDoor

