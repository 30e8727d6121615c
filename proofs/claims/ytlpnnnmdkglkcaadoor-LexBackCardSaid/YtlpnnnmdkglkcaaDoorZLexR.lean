/-
  The scanner of package lex: run, blanks. No condition but the sizes.
-/
import Derived.Test.YtlpnnnmdkglkcaaDoorZLexJ
import Derived.Test.YtlpnnnmdkglkcaaDoorZG
import Derived.Test.YtlpnnnmdkglkcaaDoorZC
import Derived.Test.YtlpnnnmdkglkcaaDoorZRdr
set_option linter.unusedSimpArgs false
set_option linter.unusedVariables false
namespace Go.Proofs.YtlpnnnmdkglkcaaDoor
open Go.RowKit

section
variable {P : Program} {dst : Option Nat} {ty : TypeId} {e : Operand → A} {β : Bx} {T T' : TypeId} {x y : Operand} {m n : Int} {b : Bool} {k : IntKind}
theorem qA5 {T : TypeId} {x : Operand} {t : TyI} {lo hi : Option Operand} {l h : Nat} {s s' : ByteArray} (ht : mkTy P T = some t) (hk : t.kind = .str) (hx : e x = .d (strD s)) (hl : loIs e l lo) (hh : hiIs e h s.size hi) (h1 : l ≤ h) (h2 : h ≤ s.size) (hs : s.extract l h = s') :
    Does P dst (.slice T x lo hi none) ty e β (.d (strD s')) [] [] := by
  subst hs; exact does_slice_str ht hk hx hl hh h1 h2
theorem qAK {m n : Int} (hd : (m == n) = b) (hx : e x = .d (.sc (.int k m))) (hy : e y = .d (.sc (.int k n))) : Does P dst (.binOp .eql T x y T') ty e β (.d (bD b)) [] [] := by
  subst hd; exact qAA hx hy
theorem qBT {m n : Int} (hd : (m != n) = b) (hx : e x = .d (.sc (.int k m))) (hy : e y = .d (.sc (.int k n))) : Does P dst (.binOp .neq T x y T') ty e β (.d (bD b)) [] [] := by
  subst hd; exact qBq hx hy
theorem qAZ {m n : Int} (hd : decide (m > n) = b) (hx : e x = .d (iD m)) (hy : e y = .d (iD n)) : Does P dst (.binOp .gtr T x y T') ty e β (.d (bD b)) [] [] := by
  subst hd; exact qBE hx hy
end
theorem qDg (s : ByteArray) : s.size = s.data.toList.length := by rw [Array.length_toList]; rfl
theorem qEu (s : ByteArray) (l h : Nat) : s.extract l h = byS ((s.data.toList.drop l).take (h - l)) := by
  refine ByteArray.ext (Array.ext' ?_)
  rw [ByteArray.data_extract, Array.toList_extract, List.extract_eq_take_drop]
abbrev scB (s : ByteArray) (i : Nat) : Bx := [(1000, .var 73 [.d (strD s), .d (iD i)])]
abbrev fnA (F : Nat) : A := .fn (.func F) [] []
abbrev qAN (s : ByteArray) (i : Nat) : List UInt8 := s.data.toList.drop i
theorem qCr {s : ByteArray} {i : Nat} (h : i < s.size) : ∃ c, s.data[i]? = some c ∧ qAN s i = c :: qAN s (i + 1) := by
  have h2 : i < s.data.toList.length := by rw [← qDg]; exact h
  exact ⟨s.data.toList[i], by rw [← Array.getElem?_toList]; exact List.getElem?_eq_getElem h2, List.drop_eq_getElem_cons h2⟩
theorem qDt {s : ByteArray} {i : Nat} (h : s.size ≤ i) : qAN s i = [] := List.drop_eq_nil_of_le (by rw [← qDg]; exact h)
theorem qCy (s : ByteArray) (i : Nat) : (qAN s i).length = s.size - i := by rw [List.length_drop, ← qDg]
theorem qEs (s : ByteArray) (i n : Nat) : (qAN s i).drop n = qAN s (i + n) := by unfold qAN; rw [List.drop_drop]
set_option maxHeartbeats 2000000 in
theorem run_px (F : Nat) (p : UInt8 → Bool) (hF : ∀ c, PC Tryd.prog F [u8D c] (bD (p c))) (s : ByteArray) (hs : s.size ≤ 1000000) (i : Nat) (hi : i ≤ s.size) :
    PX Tryd.prog 52 [.px 1000 0, fnA F] (scB s i) [] (strD (byS ((qAN s i).take (runN p (qAN s i))))) (scB s (i + runN p (qAN s i))) [] := by
  have hrl := qC8 p (qAN s i)
  rw [qCy] at hrl
  have hst : ∀ j, i + runN p (qAN s i) = j → s.extract i j = byS ((qAN s i).take (runN p (qAN s i))) := fun j hj => by rw [qEu]; congr 2; omega
  refine qBk Tryd.func52 rfl (by kernel_rfl) mixed (by kernel_rfl) (qle (by kernel_rfl)) Tryd.results52 rfl ?_
  repeat (first | ((first | (with_reducible apply rpGT) | (with_reducible apply drGT) | (with_reducible apply qAP) | (with_reducible apply qAO)); eq_refl; (first | exact qAo rfl | exact qAt rfl | exact qAw rfl | exact qAy rfl); (first | eq_refl | assumption | decide); (focus repeat' (first | exact trivial | exact id | apply And.intro | (intro h; (first | exact h | (simp only [Bool.and_eq_true] at h; (first | exact h.1 | exact h.1.1 | exact h.1.1.1 | exact h.2)) | (rw [h]; rfl) | (rw [zh, h]; rfl) | simp_all)))); ((first | ((with_reducible first | apply qAc | apply qAa); (conv => lhs; whnf)) | ((with_reducible first | apply qAb | apply qAe | apply qAi) <;> first | ((with_reducible apply tyOk); eq_refl) | eq_refl | decide)); (first | exact qAh _ | exact qAp _ _ | exact qAr _ _ _ | exact qAq _ _ _ _))) | (with_reducible first | apply qAl | apply qAm | apply qAn | apply qAk | apply qAs) | ((with_reducible apply rp); first | ((with_reducible apply qAc); (conv => lhs; whnf)) | ((with_reducible apply qAa); (conv => lhs; whnf)) | ((with_reducible apply qAb); exact tyOk rfl; eq_refl; eq_refl; decide; eq_refl) | ((with_reducible apply qAe); exact tyOk rfl; (iterate 4 eq_refl)) | ((with_reducible apply qAi); eq_refl)))
  refine qB5 (fun m st => ∃ j, i ≤ j ∧ j ≤ s.size ∧ i + runN p (qAN s i) = j + runN p (qAN s j) ∧ m = s.size - j ∧ st = ⟨[(0, .px 1000 0), (1, fnA F), (5, .d (iD i))], [(1000, .var 73 [.d (strD s), .d (iD j)])]⟩) _ _ ?_ ⟨i, Nat.le_refl _, hi, rfl, rfl, rfl⟩ ?_
  · refine qAT [] (by repeat' (first | exact qA0 | (refine qAH rfl (by exact SubA.refl _) ?_))) (kpX rfl) rfl (insS rfl) (insX rfl)
  · rintro m st ⟨j, hij, hj, he, rfl, rfl⟩
    rcases Nat.lt_or_ge j s.size with hlt | hge
    · obtain ⟨c, hb, hr⟩ := qCr hlt
      have hc := hF c
      have hll : decide ((j : Int) < (s.size : Nat)) = true := decide_eq_true (by omega)
      rw [hr, runN] at he
      cases hp : p c with
      | true =>
        rw [hp] at hc he
        rw [if_pos rfl] at he
        repeat (first | ((first | (with_reducible apply rpGT) | (with_reducible apply drGT) | (with_reducible apply qAP) | (with_reducible apply qAO)); eq_refl; exact qAo rfl; (first | eq_refl | assumption | decide); (focus repeat' (first | exact trivial | apply And.intro)); ((first | (exact qBp hll rfl rfl) | ((with_reducible apply qAd); eq_refl; eq_refl; exact (hc); eq_refl) | ((with_reducible apply qAc); (conv => lhs; whnf)) | ((with_reducible first | apply qAz | apply qAb | apply qAe | apply qAg | apply qAi) <;> first | ((with_reducible apply tyOk); eq_refl) | eq_refl | exact trivial | decide) | ((with_reducible apply qA1); eq_refl; eq_refl; omega; omega) | ((with_reducible apply qAj); exact tyOk rfl; (iterate 4 eq_refl); assumption) | ((with_reducible apply qAL); exact tyOk rfl; eq_refl; eq_refl; (conv => lhs; whnf); eq_refl; eq_refl; exact qle rfl)); (first | exact qAh _ | exact qAp _ _ | exact qAr _ _ _ | exact qAq _ _ _ _))) | (with_reducible first | apply qAl | apply qAm | apply qAn | apply qAk | apply qBi | apply qAs | apply qA2 | apply qAC) | ((with_reducible apply qBt); (first | kernel_rfl | eq_refl)) | ((with_reducible first | apply rp | apply dr); first | (exact qBp hll rfl rfl) | ((with_reducible apply qAd); eq_refl; eq_refl; exact (hc); eq_refl) | ((with_reducible apply qAc); (conv => lhs; whnf)) | ((with_reducible first | apply qAz | apply qAb | apply qAe | apply qAg | apply qAi) <;> first | ((with_reducible apply tyOk); eq_refl) | eq_refl | exact trivial | decide) | ((with_reducible apply qA1); eq_refl; eq_refl; omega; omega) | ((with_reducible apply qAj); exact tyOk rfl; (iterate 4 eq_refl); assumption)) | ((with_reducible apply rpN); ((with_reducible apply qAL); exact tyOk rfl; eq_refl; eq_refl; (conv => lhs; whnf); eq_refl; eq_refl; exact qle rfl)) | ((with_reducible apply qBr); eq_refl; eq_refl))
        refine ⟨_, _, ?_, ?_, j + 1, by omega, by omega, by omega, rfl, rfl⟩
        · omega
        · refine qAT [] (by repeat' (first | exact qA0 | (refine qAH rfl (by exact SubA.refl _) ?_))) (kpX rfl) rfl (insS rfl) (insX rfl)
      | false =>
        rw [hp] at hc he
        rw [if_neg (by decide)] at he
        repeat (first | ((first | (with_reducible apply rpGT) | (with_reducible apply drGT) | (with_reducible apply qAP) | (with_reducible apply qAO)); eq_refl; exact qAo rfl; (first | eq_refl | assumption | decide); (focus repeat' (first | exact trivial | apply And.intro)); ((first | (exact qBp hll rfl rfl) | ((with_reducible apply qAd); eq_refl; eq_refl; exact (hc); eq_refl) | (exact qA5 (l := i) (h := j) (tyOk rfl) rfl rfl ⟨_, _, rfl, rfl⟩ ⟨_, _, rfl, rfl⟩ hij hj (hst j he)) | ((with_reducible first | apply qAc | apply qAa); (conv => lhs; whnf)) | ((with_reducible first | apply qAz | apply qAb | apply qAe | apply qAg | apply qAi) <;> first | ((with_reducible apply tyOk); eq_refl) | eq_refl | exact trivial | decide) | ((with_reducible apply qAj); exact tyOk rfl; (iterate 4 eq_refl); assumption)); (first | exact qAh _ | exact qAp _ _ | exact qAr _ _ _ | exact qAq _ _ _ _))) | (with_reducible first | apply qAl | apply qAk | apply qBi | apply qBJ | apply qBL | apply qBK | apply qAF | apply qBD) | ((with_reducible apply qBt); (first | kernel_rfl | eq_refl)) | ((with_reducible apply dr); first | (exact qBp hll rfl rfl) | ((with_reducible apply qAd); eq_refl; eq_refl; exact (hc); eq_refl) | (exact qA5 (l := i) (h := j) (tyOk rfl) rfl rfl ⟨_, _, rfl, rfl⟩ ⟨_, _, rfl, rfl⟩ hij hj (hst j he)) | ((with_reducible apply qAc); (conv => lhs; whnf)) | ((with_reducible apply qAa); (conv => lhs; whnf)) | ((with_reducible apply qAz); (iterate 3 eq_refl); exact trivial) | ((with_reducible apply qAb); exact tyOk rfl; eq_refl; eq_refl; decide; eq_refl) | ((with_reducible apply qAe); exact tyOk rfl; (iterate 4 eq_refl)) | ((with_reducible apply qAg); exact tyOk rfl; eq_refl; eq_refl) | ((with_reducible apply qAi); eq_refl) | ((with_reducible apply qAj); exact tyOk rfl; (iterate 4 eq_refl); assumption)) | ((with_reducible apply qBl); eq_refl; eq_refl))
        rw [he]
        (with_reducible apply qBa (l := [])); (focus (repeat' (first | (with_reducible apply qAE) | (with_reducible apply qAx) | ((with_reducible apply qAI); eq_refl)))); eq_refl; exact SubD.refl _; refine ⟨(by repeat' (first | exact qA0 | (refine qAH rfl (by exact SubA.refl _) ?_))), (by repeat' (first | exact trivial | eq_refl | apply And.intro)), rfl, insS rfl, (by repeat' (first | exact trivial | exact qBc rfl | apply And.intro))⟩
    · have hje : j = s.size := by omega
      have hll : decide ((j : Int) < (s.size : Nat)) = false := decide_eq_false (by omega)
      rw [qDt hge] at he
      have he : i + runN p (qAN s i) = j := he
      repeat (first | ((first | (with_reducible apply rpGT) | (with_reducible apply drGT) | (with_reducible apply qAP) | (with_reducible apply qAO)); eq_refl; exact qAo rfl; (first | eq_refl | assumption | decide); (focus repeat' (first | exact trivial | exact id | apply And.intro)); ((first | (exact qBp hll rfl rfl) | (exact qA5 (l := i) (h := j) (tyOk rfl) rfl rfl ⟨_, _, rfl, rfl⟩ ⟨_, _, rfl, rfl⟩ hij hj (hst j he)) | ((with_reducible first | apply qAc | apply qAa); (conv => lhs; whnf)) | ((with_reducible apply qB6); eq_refl; (first | assumption | decide); (conv => lhs; whnf)) | ((with_reducible first | apply qAb | apply qAe | apply qAg | apply qAi) <;> first | ((with_reducible apply tyOk); eq_refl) | eq_refl | decide)); (first | exact qAh _ | exact qAp _ _ | exact qAr _ _ _ | exact qAq _ _ _ _))) | (with_reducible first | apply qAl | apply qAk | apply qBi | apply qBJ | apply qBL | apply qBK | apply qAF | apply qBD) | ((with_reducible apply qBt); (first | kernel_rfl | eq_refl)) | ((first | (with_reducible apply dr) | ((with_reducible apply drG); eq_refl; exact qAo rfl; (focus repeat' (first | exact trivial | exact id | apply And.intro)); intro zg; have zh := zg; (try simp only [zs1, zs2, zs3, zs4] at zg))); first | (exact qBp hll rfl rfl) | (exact qA5 (l := i) (h := j) (tyOk rfl) rfl rfl ⟨_, _, rfl, rfl⟩ ⟨_, _, rfl, rfl⟩ hij hj (hst j he)) | ((with_reducible first | apply qAc | apply qAa); (conv => lhs; whnf)) | ((with_reducible apply qB6); eq_refl; (first | assumption | decide); (conv => lhs; whnf)) | ((with_reducible first | apply qAb | apply qAe | apply qAg | apply qAi) <;> first | ((with_reducible apply tyOk); eq_refl) | eq_refl | decide)) | ((with_reducible apply qBl); eq_refl; eq_refl) | ((first | (with_reducible apply rpGF) | (with_reducible apply drGF)); eq_refl; exact qAo rfl; (first | assumption | decide | eq_refl); (focus repeat' (first | exact trivial | exact id | apply And.intro))))
      rw [he]
      (with_reducible apply qBa (l := [])); (focus (repeat' (first | (with_reducible apply qAE) | (with_reducible apply qAx) | ((with_reducible apply qAI); eq_refl)))); eq_refl; exact SubD.refl _; refine ⟨(by repeat' (first | exact qA0 | (refine qAH rfl (by exact SubA.refl _) ?_))), (by repeat' (first | exact trivial | eq_refl | apply And.intro)), rfl, insS rfl, (by repeat' (first | exact trivial | exact qBc rfl | apply And.intro))⟩
end Go.Proofs.YtlpnnnmdkglkcaaDoor

