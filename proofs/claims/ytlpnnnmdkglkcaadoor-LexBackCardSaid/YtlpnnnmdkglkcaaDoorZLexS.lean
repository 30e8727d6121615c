/-
  The scanner of package lex: blanks, number, hex, sign. No condition but the sizes.
-/
import Derived.Test.YtlpnnnmdkglkcaaDoorZLexR
import Derived.Test.YtlpnnnmdkglkcaaDoorZG
import Derived.Test.YtlpnnnmdkglkcaaDoorZC
set_option linter.unusedSimpArgs false
set_option linter.unusedVariables false
namespace Go.Proofs.YtlpnnnmdkglkcaaDoor
open Go.RowKit

abbrev noT : List D := [iD 0, strD .empty, iD 0, qD 0]
section
variable {P : Program} {dst : Option Nat} {ty : TypeId} {e : Operand → A} {β : Bx} {T T' : TypeId} {x y : Operand} {m n : Int} {b : Bool} {k : IntKind}
theorem qCn {p q : ByteArray} (hc : (p.toList == q.toList) = b) (hx : e x = .d (strD p)) (hy : e y = .d (strD q)) : Does P dst (.binOp .eql T x y T') ty e β (.d (bD b)) [] [] := by
  subst hc; exact does_seq hx hy
end
theorem hasPre_pc (l : List UInt8) (hl : l.length ≤ 1000000) (b : Bool) (hb : decide (l.take 2 = [45, 45]) = b) : PC Tryd.prog 51 [strD (byS l), strD ⟨#[45, 45]⟩] (bD b) := by
  have hs : (byS l).size = l.length := qDK l
  have h1 : PC Tryd.prog 84 [strD (byS l), strD ⟨#[45, 45]⟩] (bD b) := by
    rcases Nat.lt_or_ge l.length 2 with hlt | hge
    · have hbf : b = false := by
        rw [← hb, decide_eq_false]
        intro e
        have := congrArg List.length e
        rw [List.length_take] at this
        have : min 2 l.length = 2 := this
        omega
      subst hbf
      have hg : decide (((byS l).size : Int) ≥ 2) = false := decide_eq_false (by rw [hs]; omega)
      refine qAM Tryd.func84 rfl (by kernel_rfl) mixed (by kernel_rfl) (qle (by kernel_rfl)) Tryd.results84 ?_
      repeat (first | ((first | (with_reducible apply rpGT) | (with_reducible apply drGT) | (with_reducible apply qAP) | (with_reducible apply qAO)); eq_refl; exact qAo rfl; (first | eq_refl | assumption | decide); (focus repeat' (first | exact trivial | exact id | apply And.intro)); ((first | (exact qD6 hg rfl rfl) | ((with_reducible first | apply qAc | apply qAa); (conv => lhs; whnf)) | ((with_reducible apply qB6); eq_refl; (first | assumption | decide); (conv => lhs; whnf)) | ((with_reducible apply qAg); exact tyOk rfl; eq_refl; eq_refl)); (first | exact qAh _ | exact qAp _ _ | exact qAr _ _ _ | exact qAq _ _ _ _))) | (with_reducible first | apply qAl | apply qAm | apply qAn | apply qAk | apply qAF | apply qAX) | ((first | (with_reducible apply rp) | ((with_reducible apply rpG); eq_refl; exact qAo rfl; (focus repeat' (first | exact trivial | exact id | apply And.intro)); intro zg; have zh := zg; (try simp only [zs1, zs2, zs3, zs4] at zg))); first | (exact qD6 hg rfl rfl) | ((with_reducible first | apply qAc | apply qAa); (conv => lhs; whnf)) | ((with_reducible apply qB6); eq_refl; (first | assumption | decide); (conv => lhs; whnf)) | ((with_reducible apply qAg); exact tyOk rfl; eq_refl; eq_refl)) | ((first | (with_reducible apply rpGF) | (with_reducible apply drGF)); eq_refl; exact qAo rfl; (first | assumption | decide | eq_refl); (focus repeat' (first | exact trivial | exact id | apply And.intro))))
      (with_reducible apply qAY); (focus (repeat' (first | (with_reducible apply qAE) | (with_reducible apply qAx) | ((with_reducible apply qAI); eq_refl)))); eq_refl; refine SubD.of_eq ?_
      rfl
    · have hg : decide (((byS l).size : Int) ≥ 2) = true := decide_eq_true (by rw [hs]; omega)
      have hx : (byS l).extract 0 2 = byS (l.take 2) := by rw [qEu]; simp
      have he : ((byS (l.take 2)).toList == (⟨#[45, 45]⟩ : ByteArray).toList) = b := by
        rw [← hb, Bool.eq_iff_iff, decide_eq_true_eq, beq_iff_eq, bytes_eq]
        constructor
        · intro h
          have := congrArg (fun s : ByteArray => s.data.toList) h
          simpa using this
        · intro h
          rw [h]
      refine qAM Tryd.func84 rfl (by kernel_rfl) mixed (by kernel_rfl) (qle (by kernel_rfl)) Tryd.results84 ?_
      repeat (first | ((first | (with_reducible apply rpGT) | (with_reducible apply drGT) | (with_reducible apply qAP) | (with_reducible apply qAO)); eq_refl; exact qAo rfl; (first | eq_refl | assumption | decide); (focus repeat' (first | exact trivial | apply And.intro)); ((first | (exact qD6 hg rfl rfl) | (exact qA5 (l := 0) (h := 2) (tyOk rfl) rfl rfl rfl ⟨_, _, rfl, rfl⟩ (by omega) (by omega) hx) | (exact qCn he rfl rfl) | ((with_reducible first | apply qAc | apply qAa); (conv => lhs; whnf)) | ((with_reducible first | apply qAz | apply qAg) <;> first | ((with_reducible apply tyOk); eq_refl) | eq_refl | exact trivial)); (first | exact qAh _ | exact qAp _ _ | exact qAr _ _ _ | exact qAq _ _ _ _))) | (with_reducible first | apply qAl | apply qAm | apply qAn | apply qAk | apply qAF | apply qAX) | ((with_reducible apply rp); first | (exact qD6 hg rfl rfl) | (exact qA5 (l := 0) (h := 2) (tyOk rfl) rfl rfl rfl ⟨_, _, rfl, rfl⟩ (by omega) (by omega) hx) | (exact qCn he rfl rfl) | ((with_reducible apply qAc); (conv => lhs; whnf)) | ((with_reducible apply qAa); (conv => lhs; whnf)) | ((with_reducible apply qAz); (iterate 3 eq_refl); exact trivial) | ((with_reducible apply qAg); exact tyOk rfl; eq_refl; eq_refl)))
      (with_reducible apply qAY); (focus (repeat' (first | (with_reducible apply qAE) | (with_reducible apply qAx) | ((with_reducible apply qAI); eq_refl)))); eq_refl; refine SubD.of_eq ?_
      rfl
  refine qAM Tryd.func51 rfl (by kernel_rfl) mixed (by kernel_rfl) (qle (by kernel_rfl)) Tryd.results51 ?_
  repeat (first | ((first | (with_reducible apply rpGT) | (with_reducible apply drGT) | (with_reducible apply qAP) | (with_reducible apply qAO)); eq_refl; (first | exact qAo rfl | exact qAt rfl | exact qAw rfl | exact qAy rfl); (first | eq_refl | assumption | decide); (focus repeat' (first | exact trivial | exact id | apply And.intro | (intro h; (first | exact h | (simp only [Bool.and_eq_true] at h; (first | exact h.1 | exact h.1.1 | exact h.1.1.1 | exact h.2)) | (rw [h]; rfl) | (rw [zh, h]; rfl) | simp_all)))); ((first | ((with_reducible apply qAd); eq_refl; eq_refl; exact (h1); eq_refl) | ((with_reducible first | apply qAc | apply qAa); (conv => lhs; whnf))); (first | exact qAh _ | exact qAp _ _ | exact qAr _ _ _ | exact qAq _ _ _ _))) | (with_reducible first | apply qAl | apply qAm | apply qAn | apply qAk | apply qAF | apply qAX) | ((with_reducible apply rp); first | ((with_reducible apply qAd); eq_refl; eq_refl; exact (h1); eq_refl) | ((with_reducible apply qAc); (conv => lhs; whnf)) | ((with_reducible apply qAa); (conv => lhs; whnf))))
  (with_reducible apply qAY); (focus (repeat' (first | (with_reducible apply qAE) | (with_reducible apply qAx) | ((with_reducible apply qAI); eq_refl)))); eq_refl; refine SubD.of_eq ?_
  rfl
theorem notNl_pc (c : UInt8) : PC Tryd.prog 53 [u8D c] (bD (c != 10)) := by
  have e : (c != 10) = ((c.toNat : Int) != 10) := by
    rw [Bool.eq_iff_iff, bne_iff_ne, bne_iff_ne]
    constructor
    · intro h h2
      have h3 : c.toNat = 10 := by omega
      exact h (UInt8.toNat_inj.1 h3)
    · rintro h rfl
      exact h rfl
  rw [e]
  refine qAM Tryd.func53 rfl (by kernel_rfl) mixed (by kernel_rfl) (qle (by kernel_rfl)) Tryd.results53 ?_
  repeat (first | ((first | (with_reducible apply rpGT) | (with_reducible apply drGT) | (with_reducible apply qAP) | (with_reducible apply qAO)); eq_refl; (first | exact qAo rfl | exact qAt rfl | exact qAw rfl | exact qAy rfl); (first | eq_refl | assumption | decide); (focus repeat' (first | exact trivial | exact id | apply And.intro | (intro h; (first | exact h | (simp only [Bool.and_eq_true] at h; (first | exact h.1 | exact h.1.1 | exact h.1.1.1 | exact h.2)) | (rw [h]; rfl) | (rw [zh, h]; rfl) | simp_all)))); ((first | ((with_reducible first | apply qAc | apply qAa); (conv => lhs; whnf)) | ((with_reducible apply qBq); eq_refl; eq_refl)); (first | exact qAh _ | exact qAp _ _ | exact qAr _ _ _ | exact qAq _ _ _ _))) | (with_reducible first | apply qAl | apply qAm | apply qAn | apply qAk | apply qAF | apply qAX) | ((with_reducible apply rp); first | ((with_reducible apply qAc); (conv => lhs; whnf)) | ((with_reducible apply qAa); (conv => lhs; whnf)) | ((with_reducible apply qBq); eq_refl; eq_refl)))
  (with_reducible apply qAY); (focus (repeat' (first | (with_reducible apply qAE) | (with_reducible apply qAx) | ((with_reducible apply qAI); eq_refl)))); eq_refl; refine SubD.of_eq ?_
  rfl
theorem u8_ne {c : UInt8} {n : Nat} (hn : n < 256) (h : c ≠ UInt8.ofNat n) : ((c.toNat : Int) == (n : Int)) = false := by
  rw [beq_eq_false_iff_ne]
  intro h2
  refine h (UInt8.toNat_inj.1 ?_)
  rw [UInt8.toNat_ofNat', Nat.mod_eq_of_lt (by simpa using hn)]
  omega
set_option maxHeartbeats 4000000 in
theorem blanks_px (s : ByteArray) (hs : s.size ≤ 1000000) (i : Nat) (hi : i ≤ s.size) :
    PX Tryd.prog 30 [.px 1000 0] (scB s i) [] (.tu []) (scB s (i + blkN false (qAN s i))) [] := by
  refine qBk Tryd.func30 rfl (by kernel_rfl) mixed (by kernel_rfl) (qle (by kernel_rfl)) Tryd.results30 rfl ?_
  refine qB5 (fun m st => ∃ j, j ≤ s.size ∧ i + blkN false (qAN s i) = j + blkN false (qAN s j) ∧ m = s.size - j ∧ st = ⟨[(0, .px 1000 0)], [(1000, .var 73 [.d (strD s), .d (iD j)])]⟩) _ _ ?_ ⟨i, hi, rfl, rfl, rfl⟩ ?_
  · refine qAT [] (by repeat' (first | exact qA0 | (refine qAH rfl (by exact SubA.refl _) ?_))) (kpX rfl) rfl (insS rfl) (insX rfl)
  · rintro m st ⟨j, hj, he, rfl, rfl⟩
    rcases Nat.lt_or_ge j s.size with hlt | hge
    · obtain ⟨c, hb, hr⟩ := qCr hlt
      have hll : decide ((j : Int) < (s.size : Nat)) = true := decide_eq_true (by omega)
      rw [hr, blkN] at he
      cases hbl : qCx c with
      | true =>
        rw [hbl, if_pos rfl] at he
        rcases qCi hbl with rfl | rfl | rfl
        · repeat (first | ((first | (with_reducible apply rpGT) | (with_reducible apply drGT) | (with_reducible apply qAP) | (with_reducible apply qAO)); eq_refl; exact qAt rfl; (first | eq_refl | assumption | decide); (focus repeat' (first | exact trivial | exact id | apply And.intro)); ((first | (exact qBp hll rfl rfl) | ((with_reducible first | apply qAc | apply qAa); (conv => lhs; whnf)) | ((with_reducible first | apply qA6 | apply qAb | apply qAe | apply qAA | apply qAg | apply qAi) <;> first | ((with_reducible apply tyOk); eq_refl) | eq_refl | exact id | decide) | ((with_reducible apply qA1); eq_refl; eq_refl; omega; omega) | ((with_reducible apply qAj); exact tyOk rfl; (iterate 4 eq_refl); assumption) | ((with_reducible apply qAL); exact tyOk rfl; eq_refl; eq_refl; (conv => lhs; whnf); eq_refl; eq_refl; exact qle rfl)); (first | exact qAh _ | exact qAp _ _ | exact qAr _ _ _ | exact qAq _ _ _ _))) | (with_reducible first | apply qAl | apply qAm | apply qAn | apply qAk | apply qBi | apply qAs | apply qA2 | apply qAC) | ((with_reducible apply qBt); (first | kernel_rfl | eq_refl)) | ((first | (with_reducible first | apply rp | apply dr) | ((with_reducible apply drG); eq_refl; exact qAt rfl; (focus repeat' (first | exact trivial | exact id | apply And.intro)); intro zg; have zh := zg; (try simp only [zs1, zs2, zs3, zs4] at zg))); first | (exact qBp hll rfl rfl) | ((with_reducible first | apply qAc | apply qAa); (conv => lhs; whnf)) | ((with_reducible first | apply qA6 | apply qAb | apply qAe | apply qAA | apply qAg | apply qAi) <;> first | ((with_reducible apply tyOk); eq_refl) | eq_refl | exact id | decide) | ((with_reducible apply qA1); eq_refl; eq_refl; omega; omega) | ((with_reducible apply qAj); exact tyOk rfl; (iterate 4 eq_refl); assumption)) | ((with_reducible apply rpN); ((with_reducible apply qAL); exact tyOk rfl; eq_refl; eq_refl; (conv => lhs; whnf); eq_refl; eq_refl; exact qle rfl)) | ((with_reducible apply qBr); eq_refl; eq_refl))
          refine ⟨_, _, ?_, ?_, j + 1, by omega, by omega, rfl, rfl⟩
          · omega
          · refine qAT [] (by repeat' (first | exact qA0 | (refine qAH rfl (by exact SubA.refl _) ?_))) (kpX rfl) rfl (insS rfl) (insX rfl)
        · repeat (first | ((first | (with_reducible apply rpGT) | (with_reducible apply drGT) | (with_reducible apply qAP) | (with_reducible apply qAO)); eq_refl; exact qAt rfl; (first | eq_refl | assumption | decide); (focus repeat' (first | exact trivial | exact id | apply And.intro)); ((first | (exact qBp hll rfl rfl) | ((with_reducible first | apply qAc | apply qAa); (conv => lhs; whnf)) | ((with_reducible apply qA6); (iterate 3 eq_refl); (first | exact trivial | exact id)) | ((with_reducible first | apply qAb | apply qAe | apply qAA | apply qAg | apply qAi) <;> first | ((with_reducible apply tyOk); eq_refl) | eq_refl | decide) | ((with_reducible apply qA1); eq_refl; eq_refl; omega; omega) | ((with_reducible apply qAj); exact tyOk rfl; (iterate 4 eq_refl); assumption) | ((with_reducible apply qAL); exact tyOk rfl; eq_refl; eq_refl; (conv => lhs; whnf); eq_refl; eq_refl; exact qle rfl)); (first | exact qAh _ | exact qAp _ _ | exact qAr _ _ _ | exact qAq _ _ _ _))) | (with_reducible first | apply qAl | apply qAm | apply qAn | apply qAk | apply qBi | apply qAs | apply qA2 | apply qAC) | ((with_reducible apply qBt); (first | kernel_rfl | eq_refl)) | ((first | (with_reducible first | apply rp | apply dr) | ((with_reducible apply drG); eq_refl; exact qAt rfl; (focus repeat' (first | exact trivial | exact id | apply And.intro)); intro zg; have zh := zg; (try simp only [zs1, zs2, zs3, zs4] at zg))); first | (exact qBp hll rfl rfl) | ((with_reducible first | apply qAc | apply qAa); (conv => lhs; whnf)) | ((with_reducible apply qA6); (iterate 3 eq_refl); (first | exact trivial | exact id)) | ((with_reducible first | apply qAb | apply qAe | apply qAA | apply qAg | apply qAi) <;> first | ((with_reducible apply tyOk); eq_refl) | eq_refl | decide) | ((with_reducible apply qA1); eq_refl; eq_refl; omega; omega) | ((with_reducible apply qAj); exact tyOk rfl; (iterate 4 eq_refl); assumption)) | ((with_reducible apply rpN); ((with_reducible apply qAL); exact tyOk rfl; eq_refl; eq_refl; (conv => lhs; whnf); eq_refl; eq_refl; exact qle rfl)) | ((with_reducible apply qBr); eq_refl; eq_refl))
          refine ⟨_, _, ?_, ?_, j + 1, by omega, by omega, rfl, rfl⟩
          · omega
          · refine qAT [] (by repeat' (first | exact qA0 | (refine qAH rfl (by exact SubA.refl _) ?_))) (kpX rfl) rfl (insS rfl) (insX rfl)
        · repeat (first | ((first | (with_reducible apply rpGT) | (with_reducible apply drGT) | (with_reducible apply qAP) | (with_reducible apply qAO)); eq_refl; exact qAt rfl; (first | eq_refl | assumption | decide); (focus repeat' (first | exact trivial | apply And.intro)); ((first | (exact qBp hll rfl rfl) | ((with_reducible first | apply qAc | apply qAa); (conv => lhs; whnf)) | ((with_reducible first | apply qAz | apply qA6 | apply qAb | apply qAe | apply qAA | apply qAg | apply qAi) <;> first | ((with_reducible apply tyOk); eq_refl) | eq_refl | exact trivial | decide) | ((with_reducible apply qA1); eq_refl; eq_refl; omega; omega) | ((with_reducible apply qAj); exact tyOk rfl; (iterate 4 eq_refl); assumption) | ((with_reducible apply qAL); exact tyOk rfl; eq_refl; eq_refl; (conv => lhs; whnf); eq_refl; eq_refl; exact qle rfl)); (first | exact qAh _ | exact qAp _ _ | exact qAr _ _ _ | exact qAq _ _ _ _))) | (with_reducible first | apply qAl | apply qAm | apply qAn | apply qAk | apply qBi | apply qAs | apply qA2 | apply qAC) | ((with_reducible apply qBt); (first | kernel_rfl | eq_refl)) | ((with_reducible first | apply rp | apply dr); first | (exact qBp hll rfl rfl) | ((with_reducible first | apply qAc | apply qAa); (conv => lhs; whnf)) | ((with_reducible first | apply qAz | apply qA6 | apply qAb | apply qAe | apply qAA | apply qAg | apply qAi) <;> first | ((with_reducible apply tyOk); eq_refl) | eq_refl | exact trivial | decide) | ((with_reducible apply qA1); eq_refl; eq_refl; omega; omega) | ((with_reducible apply qAj); exact tyOk rfl; (iterate 4 eq_refl); assumption)) | ((with_reducible apply rpN); ((with_reducible apply qAL); exact tyOk rfl; eq_refl; eq_refl; (conv => lhs; whnf); eq_refl; eq_refl; exact qle rfl)) | ((with_reducible apply qBr); eq_refl; eq_refl))
          refine ⟨_, _, ?_, ?_, j + 1, by omega, by omega, rfl, rfl⟩
          · omega
          · refine qAT [] (by repeat' (first | exact qA0 | (refine qAH rfl (by exact SubA.refl _) ?_))) (kpX rfl) rfl (insS rfl) (insX rfl)
      | false =>
        have n32 := u8_ne (c := c) (n := 32) (by decide) (fun e => by rw [e] at hbl; exact absurd hbl (by decide))
        have n9 := u8_ne (c := c) (n := 9) (by decide) (fun e => by rw [e] at hbl; exact absurd hbl (by decide))
        have n10 := u8_ne (c := c) (n := 10) (by decide) (fun e => by rw [e] at hbl; exact absurd hbl (by decide))
        have hx : s.extract j s.size = byS (qAN s j) := by rw [qEu, List.take_of_length_le (by rw [qCy]; exact Nat.le_refl _)]
        have hrl := qCy s j
        rw [hbl, if_neg (by decide)] at he
        by_cases hd : c = 45 ∧ (qAN s (j + 1)).head? = some 45
        · obtain ⟨rfl, hd2⟩ := hd
          have hp := hasPre_pc (qAN s j) (by omega) true (by
            rw [hr]
            cases hq : qAN s (j + 1) with
            | nil => rw [hq] at hd2; cases hd2
            | cons d l =>
              rw [hq] at hd2
              injection hd2 with hd2
              rw [hd2]
              exact decide_eq_true rfl)
          have hn := run_px 53 (fun c => c != 10) notNl_pc s hs j hj
          have hbd := blk_dash hd2
          rw [blkN, if_neg (by decide), if_pos ⟨rfl, hd2⟩, ← hr, qEs] at hbd
          rw [if_pos ⟨rfl, hd2⟩, hbd] at he
          have hrun := qC8 (fun c => c != 10) (qAN s j)
          have hrp : 0 < runN (fun c => c != 10) (qAN s j) := by rw [hr, runN, if_pos (by decide)]; exact Nat.succ_pos _
          generalize runN (fun c => c != 10) (qAN s j) = n at *
          generalize (qAN s j).take n = tk at *
          repeat (first | ((first | (with_reducible apply rpGT) | (with_reducible apply drGT) | (with_reducible apply qAP) | (with_reducible apply qAO)); eq_refl; exact qAt rfl; (first | eq_refl | assumption | decide); (focus repeat' (first | exact trivial | apply And.intro)); (first | ((refine qAG [] [] (ups := [(1000, .var 73 [.d (strD s), .d (iD (j + n : Nat))])]) rfl (hn) rfl (kpX rfl) rfl (insX rfl) (insQ rfl) rfl rfl rfl rfl rfl (insX rfl) rfl rfl); (first | exact qAh _ | exact qAp _ _ | exact qAr _ _ _ | exact qAq _ _ _ _)) | ((first | (exact qBp hll rfl rfl) | (exact qAK n32 rfl rfl) | (exact qAK n9 rfl rfl) | (exact qAK n10 rfl rfl) | (exact qA5 (l := j) (h := s.size) (tyOk rfl) rfl rfl ⟨_, _, rfl, rfl⟩ rfl hj (Nat.le_refl _) hx) | ((with_reducible apply qAd); eq_refl; eq_refl; exact (hp); eq_refl) | ((with_reducible first | apply qAc | apply qAa); (conv => lhs; whnf)) | ((with_reducible first | apply qAz | apply qAb | apply qAe | apply qAg | apply qAi) <;> first | ((with_reducible apply tyOk); eq_refl) | eq_refl | exact trivial | decide) | ((with_reducible apply qAj); exact tyOk rfl; (iterate 4 eq_refl); assumption)); (first | exact qAh _ | exact qAp _ _ | exact qAr _ _ _ | exact qAq _ _ _ _)))) | (with_reducible first | apply qAl | apply qAm | apply qAn | apply qAk | apply qBi | apply qAs | apply qA2 | apply qAC) | ((with_reducible apply qBt); (first | kernel_rfl | eq_refl)) | ((with_reducible first | apply rp | apply dr); first | (exact qBp hll rfl rfl) | (exact qAK n32 rfl rfl) | (exact qAK n9 rfl rfl) | (exact qAK n10 rfl rfl) | (exact qA5 (l := j) (h := s.size) (tyOk rfl) rfl rfl ⟨_, _, rfl, rfl⟩ rfl hj (Nat.le_refl _) hx) | ((with_reducible apply qAd); eq_refl; eq_refl; exact (hp); eq_refl) | ((with_reducible first | apply qAc | apply qAa); (conv => lhs; whnf)) | ((with_reducible first | apply qAz | apply qAb | apply qAe | apply qAg | apply qAi) <;> first | ((with_reducible apply tyOk); eq_refl) | eq_refl | exact trivial | decide) | ((with_reducible apply qAj); exact tyOk rfl; (iterate 4 eq_refl); assumption)) | ((with_reducible apply rpL); (refine qAG [] [] (ups := [(1000, .var 73 [.d (strD s), .d (iD (j + n : Nat))])]) rfl (hn) rfl (kpX rfl) rfl (insX rfl) (insQ rfl) rfl rfl rfl rfl rfl (insX rfl) rfl rfl); exact qAh _) | ((with_reducible apply qBl); eq_refl; eq_refl) | ((with_reducible apply qBr); eq_refl; eq_refl))
          refine ⟨_, _, ?_, ?_, j + n, by omega, by omega, rfl, rfl⟩
          · omega
          · refine qAT [] (by repeat' (first | exact qA0 | (refine qAH rfl (by exact SubA.refl _) ?_))) (kpX rfl) rfl (insS rfl) (insX rfl)
        · have hp := hasPre_pc (qAN s j) (by omega) false (by
            rw [hr, decide_eq_false]
            intro e
            apply hd
            cases hq : qAN s (j + 1) with
            | nil => rw [hq] at e; cases e
            | cons d l =>
              rw [hq] at e
              injection e with e1 e2
              injection e2 with e2 e3
              exact ⟨e1, by rw [e2]; rfl⟩)
          rw [if_neg hd] at he
          repeat (first | ((first | (with_reducible apply rpGT) | (with_reducible apply drGT) | (with_reducible apply qAP) | (with_reducible apply qAO)); eq_refl; exact qAt rfl; (first | eq_refl | assumption | decide); (focus repeat' (first | exact trivial | apply And.intro)); ((first | (exact qBp hll rfl rfl) | (exact qAK n32 rfl rfl) | (exact qAK n9 rfl rfl) | (exact qAK n10 rfl rfl) | (exact qA5 (l := j) (h := s.size) (tyOk rfl) rfl rfl ⟨_, _, rfl, rfl⟩ rfl hj (Nat.le_refl _) hx) | ((with_reducible apply qAd); eq_refl; eq_refl; exact (hp); eq_refl) | ((with_reducible first | apply qAc | apply qAa); (conv => lhs; whnf)) | ((with_reducible first | apply qAz | apply qAb | apply qAe | apply qAg | apply qAi) <;> first | ((with_reducible apply tyOk); eq_refl) | eq_refl | exact trivial | decide) | ((with_reducible apply qAj); exact tyOk rfl; (iterate 4 eq_refl); assumption)); (first | exact qAh _ | exact qAp _ _ | exact qAr _ _ _ | exact qAq _ _ _ _))) | (with_reducible first | apply qAl | apply qAk | apply qBi | apply qAs | apply qAF | apply qBs | apply qBN | apply qBD | apply qAC) | ((with_reducible apply qBt); (first | kernel_rfl | eq_refl)) | ((with_reducible apply dr); first | (exact qBp hll rfl rfl) | (exact qAK n32 rfl rfl) | (exact qAK n9 rfl rfl) | (exact qAK n10 rfl rfl) | (exact qA5 (l := j) (h := s.size) (tyOk rfl) rfl rfl ⟨_, _, rfl, rfl⟩ rfl hj (Nat.le_refl _) hx) | ((with_reducible apply qAd); eq_refl; eq_refl; exact (hp); eq_refl) | ((with_reducible apply qAc); (conv => lhs; whnf)) | ((with_reducible apply qAa); (conv => lhs; whnf)) | ((with_reducible apply qAz); (iterate 3 eq_refl); exact trivial) | ((with_reducible apply qAb); exact tyOk rfl; eq_refl; eq_refl; decide; eq_refl) | ((with_reducible apply qAe); exact tyOk rfl; (iterate 4 eq_refl)) | ((with_reducible apply qAg); exact tyOk rfl; eq_refl; eq_refl) | ((with_reducible apply qAi); eq_refl) | ((with_reducible apply qAj); exact tyOk rfl; (iterate 4 eq_refl); assumption)) | ((with_reducible apply qBl); eq_refl; eq_refl) | ((with_reducible apply qBr); eq_refl; eq_refl))
          rw [he]
          (with_reducible apply qBa (l := [])); (focus (repeat' (with_reducible apply qAE))); eq_refl; exact SubD.refl _; refine ⟨(by repeat' (first | exact qA0 | (refine qAH rfl (by exact SubA.refl _) ?_))), (by repeat' (first | exact trivial | eq_refl | apply And.intro)), rfl, insS rfl, (by repeat' (first | exact trivial | exact qBc rfl | apply And.intro))⟩
    · have hll : decide ((j : Int) < (s.size : Nat)) = false := decide_eq_false (by omega)
      rw [qDt hge] at he
      have he : i + blkN false (qAN s i) = j := he
      repeat (first | ((first | (with_reducible apply rpGT) | (with_reducible apply drGT) | (with_reducible apply qAP) | (with_reducible apply qAO)); eq_refl; (first | exact qAo rfl | exact qAt rfl | exact qAw rfl | exact qAy rfl); (first | eq_refl | assumption | decide); (focus repeat' (first | exact trivial | exact id | apply And.intro | (intro h; (first | exact h | (simp only [Bool.and_eq_true] at h; (first | exact h.1 | exact h.1.1 | exact h.1.1.1 | exact h.2)) | (rw [h]; rfl) | (rw [zh, h]; rfl) | simp_all)))); ((first | (exact qBp hll rfl rfl) | ((with_reducible apply qAc); (conv => lhs; whnf)) | ((with_reducible first | apply qAb | apply qAe | apply qAg | apply qAi) <;> first | ((with_reducible apply tyOk); eq_refl) | eq_refl | decide)); (first | exact qAh _ | exact qAp _ _ | exact qAr _ _ _ | exact qAq _ _ _ _))) | (with_reducible first | apply qAl | apply qAk | apply qBi | apply qBJ | apply qBL | apply qBK | apply xf_norm) | ((with_reducible apply qBt); (first | kernel_rfl | eq_refl)) | ((with_reducible apply dr); first | (exact qBp hll rfl rfl) | ((with_reducible apply qAc); (conv => lhs; whnf)) | ((with_reducible apply qAb); exact tyOk rfl; eq_refl; eq_refl; decide; eq_refl) | ((with_reducible apply qAe); exact tyOk rfl; (iterate 4 eq_refl)) | ((with_reducible apply qAg); exact tyOk rfl; eq_refl; eq_refl) | ((with_reducible apply qAi); eq_refl)) | ((with_reducible apply qBl); eq_refl; eq_refl))
      rw [he]
      (with_reducible apply qBa (l := [])); (focus (repeat' (with_reducible apply qAE))); eq_refl; exact SubD.refl _; refine ⟨(by repeat' (first | exact qA0 | (refine qAH rfl (by exact SubA.refl _) ?_))), (by repeat' (first | exact trivial | eq_refl | apply And.intro)), rfl, insS rfl, (by repeat' (first | exact trivial | exact qBc rfl | apply And.intro))⟩
end Go.Proofs.YtlpnnnmdkglkcaaDoor

