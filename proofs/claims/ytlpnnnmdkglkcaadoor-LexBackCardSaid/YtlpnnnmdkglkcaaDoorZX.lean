/-
  lex.Check of a name. No condition but that it is one.
-/
import Derived.Test.YtlpnnnmdkglkcaaDoorZEx
import Derived.Test.YtlpnnnmdkglkcaaDoorZTl
import Derived.Test.YtlpnnnmdkglkcaaDoorZG
import Derived.Test.YtlpnnnmdkglkcaaDoorZC
set_option linter.unusedSimpArgs false
set_option linter.unusedVariables false
namespace Go.Proofs.YtlpnnnmdkglkcaaDoor
open Go.RowKit

section
variable {P : Program} {dst : Option Nat} {ty : TypeId} {e : Operand → A} {β : Bx} {T T' : TypeId} {x y : Operand}
theorem qC6 {a b : ByteArray} {c : Bool} (hx : e x = .d (strD a)) (hy : e y = .d (strD b)) (hc : (!(a.toList == b.toList)) = c) : Does P dst (.binOp .neq T x y T') ty e β (.d (bD c)) [] [] := by
  subst hc; exact qBO hx hy
end
theorem small_pc (c : UInt8) : PC Tryd.prog 34 [u8D c] (bD (qBU c)) := by
  have e : qBU c = (decide ((c.toNat : Int) ≥ 97) && decide ((c.toNat : Int) ≤ 122)) := by unfold qBU; congr 1 <;> exact decide_eq_decide.2 (by omega)
  rw [e]
  refine qAM Tryd.func34 rfl (by kernel_rfl) mixed (by kernel_rfl) (qle (by kernel_rfl)) Tryd.results34 ?_
  repeat (first | ((first | (with_reducible apply rpGT) | (with_reducible apply drGT) | (with_reducible apply qAP) | (with_reducible apply qAO)); eq_refl; exact qAo rfl; (first | eq_refl | assumption | decide); (focus repeat' (first | exact trivial | exact id | apply And.intro)); ((first | ((with_reducible first | apply qAc | apply qAa); (conv => lhs; whnf)) | ((with_reducible first | apply qAz | apply qC9 | apply qCZ) <;> first | eq_refl | exact id)); (first | exact qAh _ | exact qAp _ _ | exact qAr _ _ _ | exact qAq _ _ _ _))) | (with_reducible first | apply qAl | apply qAm | apply qAn | apply qAk | apply qAF | apply qAX) | ((first | (with_reducible apply rp) | ((with_reducible apply rpG); eq_refl; exact qAo rfl; (focus repeat' (first | exact trivial | exact id | apply And.intro)); intro zg; have zh := zg; (try simp only [zs1, zs2, zs3, zs4] at zg))); first | ((with_reducible first | apply qAc | apply qAa); (conv => lhs; whnf)) | ((with_reducible first | apply qAz | apply qC9 | apply qCZ) <;> first | eq_refl | exact id)))
  (with_reducible apply qAY); (focus (repeat' (first | (with_reducible apply qAE) | (with_reducible apply qAx) | ((with_reducible apply qAI); eq_refl)))); eq_refl; refine SubD.of_eq ?_
  rfl
theorem qD1 (c : UInt8) : PC Tryd.prog 54 [u8D c] (bD (qBd c)) := by
  have e : qBd c = (decide ((c.toNat : Int) ≥ 48) && decide ((c.toNat : Int) ≤ 57)) := by unfold qBd; congr 1 <;> exact decide_eq_decide.2 (by omega)
  rw [e]
  refine qAM Tryd.func54 rfl (by kernel_rfl) mixed (by kernel_rfl) (qle (by kernel_rfl)) Tryd.results54 ?_
  repeat (first | ((first | (with_reducible apply rpGT) | (with_reducible apply drGT) | (with_reducible apply qAP) | (with_reducible apply qAO)); eq_refl; exact qAo rfl; (first | eq_refl | assumption | decide); (focus repeat' (first | exact trivial | exact id | apply And.intro)); ((first | ((with_reducible first | apply qAc | apply qAa); (conv => lhs; whnf)) | ((with_reducible first | apply qAz | apply qC9 | apply qCZ) <;> first | eq_refl | exact id)); (first | exact qAh _ | exact qAp _ _ | exact qAr _ _ _ | exact qAq _ _ _ _))) | (with_reducible first | apply qAl | apply qAm | apply qAn | apply qAk | apply qAF | apply qAX) | ((first | (with_reducible apply rp) | ((with_reducible apply rpG); eq_refl; exact qAo rfl; (focus repeat' (first | exact trivial | exact id | apply And.intro)); intro zg; have zh := zg; (try simp only [zs1, zs2, zs3, zs4] at zg))); first | ((with_reducible first | apply qAc | apply qAa); (conv => lhs; whnf)) | ((with_reducible first | apply qAz | apply qC9 | apply qCZ) <;> first | eq_refl | exact id)))
  (with_reducible apply qAY); (focus (repeat' (first | (with_reducible apply qAE) | (with_reducible apply qAx) | ((with_reducible apply qAI); eq_refl)))); eq_refl; refine SubD.of_eq ?_
  rfl
theorem inName_pc (c : UInt8) : PC Tryd.prog 33 [u8D c] (bD (qBA c)) := by
  have s1 := small_pc c
  have d1 := qD1 c
  have e : qBA c = ((qBU c || qBd c) || ((c.toNat : Int) == 95)) := by
    unfold qBA
    congr 1
    rw [Bool.eq_iff_iff, beq_iff_eq, beq_iff_eq]
    omega
  rw [e]
  refine qAM Tryd.func33 rfl (by kernel_rfl) mixed (by kernel_rfl) (qle (by kernel_rfl)) Tryd.results33 ?_
  repeat (first | ((first | (with_reducible apply rpGT) | (with_reducible apply drGT) | (with_reducible apply qAP) | (with_reducible apply qAO)); eq_refl; exact qAt rfl; (first | eq_refl | assumption | decide); (focus repeat' (first | exact trivial | exact id | apply And.intro)); ((first | ((with_reducible apply qAd); eq_refl; eq_refl; (first | exact (s1) | exact (d1)); eq_refl) | ((with_reducible first | apply qAc | apply qAa); (conv => lhs; whnf)) | ((with_reducible first | apply qA6 | apply qAA) <;> first | eq_refl | exact id)); (first | exact qAh _ | exact qAp _ _ | exact qAr _ _ _ | exact qAq _ _ _ _))) | (with_reducible first | apply qAl | apply qAm | apply qAn | apply qAk | apply qAF | apply qAX) | ((first | (with_reducible apply rp) | ((with_reducible apply rpG); eq_refl; exact qAt rfl; (focus repeat' (first | exact trivial | exact id | apply And.intro)); intro zg; have zh := zg; (try simp only [zs1, zs2, zs3, zs4] at zg))); first | ((with_reducible apply qAd); eq_refl; eq_refl; (first | exact (s1) | exact (d1)); eq_refl) | ((with_reducible first | apply qAc | apply qAa); (conv => lhs; whnf)) | ((with_reducible first | apply qA6 | apply qAA) <;> first | eq_refl | exact id)))
  (with_reducible apply qAY); (focus (repeat' (first | (with_reducible apply qAE) | (with_reducible apply qAx) | ((with_reducible apply qAI); eq_refl)))); eq_refl; refine SubD.of_eq ?_
  rfl
theorem name_nil {n : ByteArray} (h : qDc n) : (n.toList == (⟨#[]⟩ : ByteArray).toList) = false := by
  rw [beq_eq_false_iff_ne]
  intro e
  rw [ByteArray.toList_eq, ByteArray.toList_eq] at e
  unfold qDc at h
  rw [e] at h
  cases h
theorem qDX {n : ByteArray} (h : qDc n) : ∃ c l, n.data.toList = c :: l ∧ qBU c = true ∧ n.size ≤ 8 ∧ ∀ d ∈ n.data.toList, qBA d = true := by
  have hs : n.size = n.data.toList.length := by rw [Array.length_toList]; rfl
  unfold qDc at h
  cases hn : n.data.toList with
  | nil => rw [hn] at h; cases h
  | cons c l =>
    rw [hn] at h
    unfold nameB at h
    simp only [Bool.and_eq_true, decide_eq_true_eq] at h
    exact ⟨c, l, rfl, h.1.1, by rw [hs, hn]; exact h.1.2, List.all_eq_true.1 h.2⟩
set_option maxHeartbeats 1000000 in
theorem all_px (s : ByteArray) (h : qDc s) : PX Tryd.prog 32 [.d (strD s), .fn (.func 33) [] []] [] [] (bD true) [] [] := by
  obtain ⟨_, _, _, _, h8, hall⟩ := qDX h
  have hn := name_nil h
  refine qBk Tryd.func32 rfl (by kernel_rfl) mixed (by kernel_rfl) (qle (by kernel_rfl)) Tryd.results32 rfl ?_
  repeat (first | ((first | (with_reducible apply rpGT) | (with_reducible apply drGT) | (with_reducible apply qAP) | (with_reducible apply qAO)); eq_refl; (first | exact qAo rfl | exact qAt rfl | exact qAw rfl | exact qAy rfl); (first | eq_refl | assumption | decide); (focus repeat' (first | exact trivial | exact id | apply And.intro | (intro h; (first | exact h | (simp only [Bool.and_eq_true] at h; (first | exact h.1 | exact h.1.1 | exact h.1.1.1 | exact h.2)) | (rw [h]; rfl) | (rw [zh, h]; rfl) | simp_all)))); ((first | ((with_reducible first | apply qAc | apply qAa); (conv => lhs; whnf)) | ((with_reducible apply qAg); exact tyOk rfl; eq_refl; eq_refl)); (first | exact qAh _ | exact qAp _ _ | exact qAr _ _ _ | exact qAq _ _ _ _))) | (with_reducible first | apply qAl | apply qAm | apply qAn | apply qAk | apply qAs) | ((with_reducible apply rp); first | ((with_reducible apply qAc); (conv => lhs; whnf)) | ((with_reducible apply qAa); (conv => lhs; whnf)) | ((with_reducible apply qAg); exact tyOk rfl; eq_refl; eq_refl)))
  refine qB5 (fun m st => ∃ k, k ≤ s.size ∧ m = s.size - k ∧ st = ⟨[(0, .d (strD s)), (1, .fn (.func 33) [] []), (7, .d (iD s.size)), (8, .d (iD k))], []⟩) _ _ ?_ ⟨0, by omega, rfl, rfl⟩ ?_
  · refine qAT [] (by repeat' (first | exact qA0 | (refine qAH rfl (by exact SubA.refl _) ?_))) (kpX rfl) rfl (insS rfl) (insX rfl)
  · rintro m st ⟨k, hk, rfl, rfl⟩
    repeat (first | ((first | (with_reducible apply rpGT) | (with_reducible apply drGT) | (with_reducible apply qAP) | (with_reducible apply qAO)); eq_refl; (first | exact qAo rfl | exact qAt rfl | exact qAw rfl | exact qAy rfl); (first | eq_refl | assumption | decide); (focus repeat' (first | exact trivial | exact id | apply And.intro | (intro h; (first | exact h | (simp only [Bool.and_eq_true] at h; (first | exact h.1 | exact h.1.1 | exact h.1.1.1 | exact h.2)) | (rw [h]; rfl) | (rw [zh, h]; rfl) | simp_all)))); ((first | ((with_reducible apply qBm); eq_refl; eq_refl)); (first | exact qAh _ | exact qAp _ _ | exact qAr _ _ _ | exact qAq _ _ _ _))) | (with_reducible first | apply qAl | apply qAm | apply qAn | apply qAk) | ((with_reducible apply rp); ((with_reducible apply qBm); eq_refl; eq_refl)))
    refine qA7 rfl (fun hd => ?_) (fun hd => ?_)
    · have hlt : k < s.size := by simp at hd; omega
      clear hd
      have hb : s.data[k]? = some s.data[k] := Array.getElem?_eq_getElem hlt
      have hin := hall s.data[k] (Array.getElem_mem_toList hlt)
      have p1 := inName_pc s.data[k]
      rw [hin] at p1
      generalize s.data[k] = c at *
      repeat (first | ((first | (with_reducible apply rpGT) | (with_reducible apply drGT) | (with_reducible apply qAP) | (with_reducible apply qAO)); eq_refl; (first | exact qAo rfl | exact qAt rfl | exact qAw rfl | exact qAy rfl); (first | eq_refl | assumption | decide); (focus repeat' (first | exact trivial | exact id | apply And.intro | (intro h; (first | exact h | (simp only [Bool.and_eq_true] at h; (first | exact h.1 | exact h.1.1 | exact h.1.1.1 | exact h.2)) | (rw [h]; rfl) | (rw [zh, h]; rfl) | simp_all)))); ((first | ((with_reducible apply qAd); eq_refl; eq_refl; exact (p1); eq_refl) | ((with_reducible first | apply qAc | apply qAa); (conv => lhs; whnf)) | ((with_reducible apply qBn); eq_refl) | ((with_reducible apply qAj); exact tyOk rfl; (iterate 4 eq_refl); assumption)); (first | exact qAh _ | exact qAp _ _ | exact qAr _ _ _ | exact qAq _ _ _ _))) | (with_reducible first | apply qAl | apply qAm | apply qAn | apply qAk | apply qAs | apply qAC) | ((with_reducible apply rp); first | ((with_reducible apply qAd); eq_refl; eq_refl; exact (p1); eq_refl) | ((with_reducible apply qAc); (conv => lhs; whnf)) | ((with_reducible apply qAa); (conv => lhs; whnf)) | ((with_reducible apply qBn); eq_refl) | ((with_reducible apply qAj); exact tyOk rfl; (iterate 4 eq_refl); assumption)))
      refine qA7 rfl (fun hd => (by cases hd)) (fun hd => ?_)
      clear hd
      repeat (first | ((first | (with_reducible apply rpGT) | (with_reducible apply drGT) | (with_reducible apply qAP) | (with_reducible apply qAO)); eq_refl; (first | exact qAo rfl | exact qAt rfl | exact qAw rfl | exact qAy rfl); (first | eq_refl | assumption | decide); (focus repeat' (first | exact trivial | exact id | apply And.intro | (intro h; (first | exact h | (simp only [Bool.and_eq_true] at h; (first | exact h.1 | exact h.1.1 | exact h.1.1.1 | exact h.2)) | (rw [h]; rfl) | (rw [zh, h]; rfl) | simp_all)))); ((first | ((with_reducible apply qAc); (conv => lhs; whnf)) | ((with_reducible apply qA1); eq_refl; eq_refl; omega; omega)); (first | exact qAh _ | exact qAp _ _ | exact qAr _ _ _ | exact qAq _ _ _ _))) | (with_reducible first | apply qAm | apply qAn | apply qAk | apply qA2 | apply qAC) | ((with_reducible apply rp); first | ((with_reducible apply qAc); (conv => lhs; whnf)) | ((with_reducible apply qA1); eq_refl; eq_refl; omega; omega)))
      refine ⟨_, _, ?_, ?_, k + 1, by omega, rfl, rfl⟩
      · omega
      · refine qAT [] (by repeat' (first | exact qA0 | (refine qAH rfl (by exact SubA.refl _) ?_))) (kpX rfl) rfl (insS rfl) (insX rfl)
    · have hke : k = s.size := by simp at hd; omega
      clear hd
      subst hke
      repeat (first | ((first | (with_reducible apply rpGT) | (with_reducible apply drGT) | (with_reducible apply qAP) | (with_reducible apply qAO)); eq_refl; (first | exact qAo rfl | exact qAt rfl | exact qAw rfl | exact qAy rfl); (first | eq_refl | assumption | decide); (focus repeat' (first | exact trivial | exact id | apply And.intro | (intro h; (first | exact h | (simp only [Bool.and_eq_true] at h; (first | exact h.1 | exact h.1.1 | exact h.1.1.1 | exact h.2)) | (rw [h]; rfl) | (rw [zh, h]; rfl) | simp_all)))); ((first | (exact qC6 (c := true) rfl rfl (by rw [hn]; rfl)) | ((with_reducible first | apply qAc | apply qAa); (conv => lhs; whnf))); (first | exact qAh _ | exact qAp _ _ | exact qAr _ _ _ | exact qAq _ _ _ _))) | (with_reducible first | apply qAl | apply qAm | apply qAn | apply qAk | apply qBJ | apply qBL | apply qBK | apply qAF | apply qBD) | ((with_reducible apply rp); first | (exact qC6 (c := true) rfl rfl (by rw [hn]; rfl)) | ((with_reducible apply qAc); (conv => lhs; whnf)) | ((with_reducible apply qAa); (conv => lhs; whnf))))
      (with_reducible apply qBa (l := [])); (focus (repeat' (first | (with_reducible apply qAE) | (with_reducible apply qAx) | ((with_reducible apply qAI); eq_refl)))); eq_refl; exact SubD.refl _; refine ⟨(by repeat' (first | exact qA0 | (refine qAH rfl (by exact SubA.refl _) ?_))), (by repeat' exact trivial), rfl, insS rfl, (by repeat' (first | exact trivial | apply And.intro))⟩
set_option maxHeartbeats 1000000 in
theorem name_pc (n : ByteArray) (h : qDc n) : PC Tryd.prog 17 [.ag [iD 1, strD n, iD 0, qD 0]] (iD 0) := by
  obtain ⟨c, l, hc, hs, h8, _⟩ := qDX h
  have a1 := all_px n h
  have s1 := small_pc c
  rw [hs] at s1
  have hb : n.data[0]? = some c := by
    have : n.data.toList[0]? = some c := by rw [hc]; rfl
    rwa [Array.getElem?_toList] at this
  have hz : ¬ ((n.size : Int) > 8) := by omega
  refine qAM Tryd.func17 rfl (by kernel_rfl) mixed (by kernel_rfl) (qle (by kernel_rfl)) Tryd.results17 ?_
  repeat (first | ((first | (with_reducible apply rpGT) | (with_reducible apply drGT) | (with_reducible apply qAP) | (with_reducible apply qAO)); eq_refl; exact qAt rfl; (first | eq_refl | assumption | decide); (focus repeat' (first | exact trivial | apply And.intro)); ((first | ((with_reducible first | apply qAc | apply qAa); (conv => lhs; whnf)) | ((with_reducible first | apply qAz | apply qAb | apply qAe | apply qBm | apply qBE | apply qAB) <;> first | ((with_reducible apply tyOk); eq_refl) | eq_refl | exact trivial | decide)); (first | exact qAh _ | exact qAp _ _ | exact qAr _ _ _ | exact qAq _ _ _ _))) | (with_reducible first | apply qAl | apply qAm | apply qAn | apply qAk) | ((with_reducible apply rp); first | ((with_reducible apply qAc); (conv => lhs; whnf)) | ((with_reducible apply qAa); (conv => lhs; whnf)) | ((with_reducible apply qAz); (iterate 3 eq_refl); exact trivial) | ((with_reducible apply qAb); exact tyOk rfl; eq_refl; eq_refl; decide; eq_refl) | ((with_reducible apply qAe); exact tyOk rfl; (iterate 4 eq_refl)) | ((with_reducible apply qBm); eq_refl; eq_refl) | ((with_reducible apply qBE); eq_refl; eq_refl)) | ((with_reducible apply rp1); ((with_reducible apply qAB); eq_refl; eq_refl)))
  refine qA7 rfl (fun hd => (by cases hd)) (fun hd => ?_)
  clear hd
  repeat (first | ((first | (with_reducible apply rpGT) | (with_reducible apply drGT) | (with_reducible apply qAP) | (with_reducible apply qAO)); eq_refl; (first | exact qAo rfl | exact qAt rfl); (first | eq_refl | assumption | decide); (focus repeat' (first | exact trivial | exact id | apply And.intro | (intro h; simp_all))); ((first | ((with_reducible apply qAc); (conv => lhs; whnf)) | ((with_reducible apply qAz); (iterate 3 eq_refl); (first | exact trivial | exact id)) | ((with_reducible apply qA6); (iterate 3 eq_refl); (first | exact trivial | exact id)) | ((with_reducible first | apply qAb | apply qAe | apply qAA | apply qBE | apply qAg) <;> first | ((with_reducible apply tyOk); eq_refl) | eq_refl | decide)); (first | exact qAh _ | exact qAp _ _ | exact qAr _ _ _ | exact qAq _ _ _ _))) | (with_reducible first | apply qAl | apply qAm | apply qAn | apply qAk | apply qAC) | ((first | (with_reducible apply rp) | ((with_reducible apply rpG); eq_refl; (first | exact qAo rfl | exact qAt rfl); (focus repeat' (first | exact trivial | exact id | apply And.intro | (intro h; simp_all))); intro zg; have zh := zg; (try simp only [zs1, zs2, zs3, zs4] at zg))); first | ((with_reducible apply qAc); (conv => lhs; whnf)) | ((with_reducible apply qAz); (iterate 3 eq_refl); (first | exact trivial | exact id)) | ((with_reducible apply qA6); (iterate 3 eq_refl); (first | exact trivial | exact id)) | ((with_reducible first | apply qAb | apply qAe | apply qAA | apply qBE | apply qAg) <;> first | ((with_reducible apply tyOk); eq_refl) | eq_refl | decide)) | ((first | (with_reducible apply rpGP) | (with_reducible apply drGP)); eq_refl; (first | exact qAo rfl | exact qAt rfl); (focus repeat' (first | exact trivial | exact id | apply And.intro | (intro h; simp_all))); (intro zg; have zh := zg; (try simp only [zs1, zs2, zs3, zs4] at zg); first | ((with_reducible apply qA6); (iterate 3 eq_refl); (first | exact trivial | exact id)) | ((with_reducible apply qAz); (iterate 3 eq_refl); (first | exact trivial | exact id)))))
  refine qA7 rfl (fun hd => absurd hd (by simp; omega)) (fun hd => ?_)
  clear hd
  repeat (first | ((first | (with_reducible apply rpGT) | (with_reducible apply drGT) | (with_reducible apply qAP) | (with_reducible apply qAO)); eq_refl; (first | exact qAo rfl | exact qAt rfl); (first | eq_refl | assumption | decide); (focus repeat' (first | exact trivial | exact id | apply And.intro | (intro h; simp_all))); ((first | ((with_reducible apply qAc); (conv => lhs; whnf)) | ((with_reducible apply qAz); (iterate 3 eq_refl); (first | exact trivial | exact id)) | ((with_reducible apply qA6); (iterate 3 eq_refl); (first | exact trivial | exact id)) | ((with_reducible first | apply qAb | apply qAe | apply qAA | apply qBq) <;> first | ((with_reducible apply tyOk); eq_refl) | eq_refl | decide) | ((with_reducible apply qBO); eq_refl; eq_refl)); (first | exact qAh _ | exact qAp _ _ | exact qAr _ _ _ | exact qAq _ _ _ _))) | (with_reducible first | apply qAl | apply qAm | apply qAn | apply qAk | apply qAC) | ((first | (with_reducible apply rp) | ((with_reducible apply rpG); eq_refl; (first | exact qAo rfl | exact qAt rfl); (focus repeat' (first | exact trivial | exact id | apply And.intro | (intro h; simp_all))); intro zg; have zh := zg; (try simp only [zs1, zs2, zs3, zs4] at zg))); first | ((with_reducible apply qAc); (conv => lhs; whnf)) | ((with_reducible apply qAz); (iterate 3 eq_refl); (first | exact trivial | exact id)) | ((with_reducible apply qA6); (iterate 3 eq_refl); (first | exact trivial | exact id)) | ((with_reducible first | apply qAb | apply qAe | apply qAA | apply qBq) <;> first | ((with_reducible apply tyOk); eq_refl) | eq_refl | decide) | ((with_reducible apply qBO); eq_refl; eq_refl)) | ((first | (with_reducible apply rpGP) | (with_reducible apply drGP)); eq_refl; (first | exact qAo rfl | exact qAt rfl); (focus repeat' (first | exact trivial | exact id | apply And.intro | (intro h; simp_all))); (intro zg; have zh := zg; (try simp only [zs1, zs2, zs3, zs4] at zg); first | ((with_reducible apply qA6); (iterate 3 eq_refl); (first | exact trivial | exact id)) | ((with_reducible apply qAz); (iterate 3 eq_refl); (first | exact trivial | exact id)))))
  refine qA7 rfl (fun hd => absurd hd (by simp)) (fun hd => ?_)
  clear hd
  repeat (first | ((first | (with_reducible apply rpGT) | (with_reducible apply drGT) | (with_reducible apply qAP) | (with_reducible apply qAO)); eq_refl; (first | exact qAo rfl | exact qAt rfl | exact qAw rfl | exact qAy rfl); (first | eq_refl | assumption | decide); (focus repeat' (first | exact trivial | exact id | apply And.intro | (intro h; (first | exact h | (simp only [Bool.and_eq_true] at h; (first | exact h.1 | exact h.1.1 | exact h.1.1.1 | exact h.2)) | (rw [h]; rfl) | (rw [zh, h]; rfl) | simp_all)))); ((first | ((with_reducible apply qAa); (conv => lhs; whnf)) | ((with_reducible first | apply qAb | apply qAe | apply qAA) <;> first | ((with_reducible apply tyOk); eq_refl) | eq_refl | decide)); (first | exact qAh _ | exact qAp _ _ | exact qAr _ _ _ | exact qAq _ _ _ _))) | (with_reducible first | apply qAl | apply qAm | apply qAn | apply qAk | apply qAs | apply qAC) | ((with_reducible apply rp); first | ((with_reducible apply qAa); (conv => lhs; whnf)) | ((with_reducible apply qAb); exact tyOk rfl; eq_refl; eq_refl; decide; eq_refl) | ((with_reducible apply qAe); exact tyOk rfl; (iterate 4 eq_refl)) | ((with_reducible apply qAA); eq_refl; eq_refl)))
  refine qA7 rfl (fun hd => ?_) (fun hd => (by cases hd))
  clear hd
  repeat (first | ((first | (with_reducible apply rpGT) | (with_reducible apply drGT) | (with_reducible apply qAP) | (with_reducible apply qAO)); eq_refl; exact qAo rfl; (first | eq_refl | assumption | decide); (focus repeat' (first | exact trivial | apply And.intro)); (first | ((refine qAG [] [] (ups := []) rfl (a1) rfl (kpX rfl) rfl (insX rfl) (insQ rfl) rfl rfl rfl rfl rfl (insX rfl) rfl rfl); (first | exact qAh _ | exact qAp _ _ | exact qAr _ _ _ | exact qAq _ _ _ _)) | ((first | ((with_reducible apply qAd); eq_refl; eq_refl; exact (s1); eq_refl) | ((with_reducible first | apply qAc | apply qAa); (conv => lhs; whnf)) | ((with_reducible first | apply qAz | apply qAb | apply qAe | apply qBn) <;> first | ((with_reducible apply tyOk); eq_refl) | eq_refl | exact trivial | decide) | ((with_reducible apply qAj); exact tyOk rfl; (iterate 4 eq_refl); assumption)); (first | exact qAh _ | exact qAp _ _ | exact qAr _ _ _ | exact qAq _ _ _ _)))) | (with_reducible first | apply qAl | apply qAm | apply qAn | apply qAk | apply qA2) | ((with_reducible apply rp); first | ((with_reducible apply qAd); eq_refl; eq_refl; exact (s1); eq_refl) | ((with_reducible apply qAc); (conv => lhs; whnf)) | ((with_reducible apply qAa); (conv => lhs; whnf)) | ((with_reducible apply qAz); (iterate 3 eq_refl); exact trivial) | ((with_reducible apply qAb); exact tyOk rfl; eq_refl; eq_refl; decide; eq_refl) | ((with_reducible apply qAe); exact tyOk rfl; (iterate 4 eq_refl)) | ((with_reducible apply qBn); eq_refl) | ((with_reducible apply qAj); exact tyOk rfl; (iterate 4 eq_refl); assumption)) | ((with_reducible apply rpL); (refine qAG [] [] (ups := []) rfl (a1) rfl (kpX rfl) rfl (insX rfl) (insQ rfl) rfl rfl rfl rfl rfl (insX rfl) rfl rfl); exact qAh _))
  refine qA7 rfl (fun hd => (by cases hd)) (fun hd => ?_)
  clear hd
  repeat (first | ((first | (with_reducible apply rpGT) | (with_reducible apply drGT) | (with_reducible apply qAP) | (with_reducible apply qAO)); eq_refl; (first | exact qAo rfl | exact qAt rfl | exact qAw rfl | exact qAy rfl); (first | eq_refl | assumption | decide); (focus repeat' (first | exact trivial | exact id | apply And.intro | (intro h; (first | exact h | (simp only [Bool.and_eq_true] at h; (first | exact h.1 | exact h.1.1 | exact h.1.1.1 | exact h.2)) | (rw [h]; rfl) | (rw [zh, h]; rfl) | simp_all)))); ((first | ((with_reducible apply qAa); (conv => lhs; whnf))); (first | exact qAh _ | exact qAp _ _ | exact qAr _ _ _ | exact qAq _ _ _ _))) | (with_reducible first | apply qAl | apply qAm | apply qAn | apply qAk | apply qAF | apply qAX | apply qAC) | ((with_reducible apply rp); ((with_reducible apply qAa); (conv => lhs; whnf))))
  (with_reducible apply qAY); (focus (repeat' (first | (with_reducible apply qAE) | (with_reducible apply qAx) | ((with_reducible apply qAI); eq_refl)))); eq_refl; refine SubD.of_eq ?_
  rfl
end Go.Proofs.YtlpnnnmdkglkcaaDoor

