/-
  The scanner of package lex: hex, sign. No condition but the sizes.
-/
import Derived.Test.YtlpnnnmdkglkcaaDoorZLexT
set_option linter.unusedSimpArgs false
set_option linter.unusedVariables false
namespace Go.Proofs.YtlpnnnmdkglkcaaDoor
open Go.RowKit

theorem hexDigit_yes (c : UInt8) (d : Nat) (h : hexV c = some d) : PC Tryd.prog 86 [u8D c] (.tu [qD d, bD true]) := by
  have d1 := qD1 c
  have hc := c.toNat_lt
  unfold hexV at h
  split at h
  · rename_i hd
    injection h with h
    rw [hd] at d1
    have hd2 : 48 ≤ c.toNat ∧ c.toNat ≤ 57 := by unfold qBd at hd; simpa using hd
    have hw : IntKind.u8.wrap ((c.toNat : Int) - 48) = (d : Nat) := by rw [IntKind.wrap_u8]; omega
    have hw2 : IntKind.u64.wrap ((d : Nat) : Int) = (d : Nat) := by rw [IntKind.wrap_u64]; omega
    refine qAM Tryd.func86 rfl (by kernel_rfl) mixed (by kernel_rfl) (qle (by kernel_rfl)) Tryd.results86 ?_
    repeat (first | ((first | (with_reducible apply rpGT) | (with_reducible apply drGT) | (with_reducible apply qAP) | (with_reducible apply qAO)); eq_refl; (first | exact qAo rfl | exact qAt rfl | exact qAw rfl | exact qAy rfl); (first | eq_refl | assumption | decide); (focus repeat' (first | exact trivial | exact id | apply And.intro | (intro h; (first | exact h | (simp only [Bool.and_eq_true] at h; (first | exact h.1 | exact h.1.1 | exact h.1.1.1 | exact h.2)) | (rw [h]; rfl) | (rw [zh, h]; rfl) | simp_all)))); ((first | ((with_reducible apply qAd); eq_refl; eq_refl; exact (d1); eq_refl) | (exact qBQ hw rfl rfl) | (exact qCP hw2 (tyOk rfl) (tyOk rfl) rfl rfl) | ((with_reducible first | apply qAc | apply qAa); (conv => lhs; whnf))); (first | exact qAh _ | exact qAp _ _ | exact qAr _ _ _ | exact qAq _ _ _ _))) | (with_reducible first | apply qAl | apply qAm | apply qAn | apply qAk | apply qAs | apply qAF | apply qBs | apply qBN | apply qAX) | ((with_reducible apply rp); first | ((with_reducible apply qAd); eq_refl; eq_refl; exact (d1); eq_refl) | (exact qBQ hw rfl rfl) | (exact qCP hw2 (tyOk rfl) (tyOk rfl) rfl rfl) | ((with_reducible apply qAc); (conv => lhs; whnf)) | ((with_reducible apply qAa); (conv => lhs; whnf))) | ((with_reducible apply qBr); eq_refl; eq_refl))
    (with_reducible apply qAY); (focus (repeat' (first | (with_reducible apply qAE) | (with_reducible apply qAx) | ((with_reducible apply qAI); eq_refl)))); eq_refl; refine SubD.of_eq ?_
    rfl
  · rename_i hd
    split at h
    · rename_i hd2
      injection h with h
      have hd : qBd c = false := by simpa using hd
      rw [hd] at d1
      have g1 : decide ((c.toNat : Int) ≥ 97) = true := decide_eq_true (by omega)
      have g2 : decide ((c.toNat : Int) ≤ 102) = true := decide_eq_true (by omega)
      have hw : IntKind.u8.wrap ((c.toNat : Int) - 97) = ((c.toNat - 97 : Nat) : Int) := by rw [IntKind.wrap_u8]; omega
      have hw2 : IntKind.u64.wrap ((c.toNat - 97 : Nat) : Int) = ((c.toNat - 97 : Nat) : Int) := by rw [IntKind.wrap_u64]; omega
      have hw3 : IntKind.u64.wrap (((c.toNat - 97 : Nat) : Int) + 10) = (d : Nat) := by rw [IntKind.wrap_u64]; omega
      refine qAM Tryd.func86 rfl (by kernel_rfl) mixed (by kernel_rfl) (qle (by kernel_rfl)) Tryd.results86 ?_
      repeat (first | ((first | (with_reducible apply rpGT) | (with_reducible apply drGT) | (with_reducible apply qAP) | (with_reducible apply qAO)); eq_refl; exact qAo rfl; (first | eq_refl | assumption | decide); (focus repeat' (first | exact trivial | apply And.intro)); ((first | ((with_reducible apply qAd); eq_refl; eq_refl; exact (d1); eq_refl) | (exact qAR g1 rfl rfl) | (exact qB3 g2 rfl rfl) | (exact qBQ hw rfl rfl) | (exact qCP hw2 (tyOk rfl) (tyOk rfl) rfl rfl) | (exact qEg hw3 rfl rfl) | ((with_reducible first | apply qAc | apply qAa); (conv => lhs; whnf)) | ((with_reducible apply qAz); (iterate 3 eq_refl); exact trivial)); (first | exact qAh _ | exact qAp _ _ | exact qAr _ _ _ | exact qAq _ _ _ _))) | (with_reducible first | apply qAl | apply qAm | apply qAn | apply qAk | apply qAs | apply qAF | apply qBs | apply qBN | apply qAX) | ((with_reducible apply rp); first | ((with_reducible apply qAd); eq_refl; eq_refl; exact (d1); eq_refl) | (exact qAR g1 rfl rfl) | (exact qB3 g2 rfl rfl) | (exact qBQ hw rfl rfl) | (exact qCP hw2 (tyOk rfl) (tyOk rfl) rfl rfl) | (exact qEg hw3 rfl rfl) | ((with_reducible apply qAc); (conv => lhs; whnf)) | ((with_reducible apply qAa); (conv => lhs; whnf)) | ((with_reducible apply qAz); (iterate 3 eq_refl); exact trivial)) | ((with_reducible apply qBl); eq_refl; eq_refl) | ((with_reducible apply qBr); eq_refl; eq_refl))
      (with_reducible apply qAY); (focus (repeat' (first | (with_reducible apply qAE) | (with_reducible apply qAx) | ((with_reducible apply qAI); eq_refl)))); eq_refl; refine SubD.of_eq ?_
      rfl
    · cases h
theorem hexDigit_no (c : UInt8) (h : hexV c = none) : PC Tryd.prog 86 [u8D c] (.tu [qD 0, bD false]) := by
  have d1 := qD1 c
  unfold hexV at h
  split at h
  · cases h
  · rename_i hd
    have hd : qBd c = false := by simpa using hd
    rw [hd] at d1
    split at h
    · cases h
    · rename_i hd2
      rcases Nat.lt_or_ge c.toNat 97 with h1 | h1
      · have g1 : decide ((c.toNat : Int) ≥ 97) = false := decide_eq_false (by omega)
        refine qAM Tryd.func86 rfl (by kernel_rfl) mixed (by kernel_rfl) (qle (by kernel_rfl)) Tryd.results86 ?_
        repeat (first | ((first | (with_reducible apply rpGT) | (with_reducible apply drGT) | (with_reducible apply qAP) | (with_reducible apply qAO)); eq_refl; exact qAo rfl; (first | eq_refl | assumption | decide); (focus repeat' (first | exact trivial | exact id | apply And.intro)); ((first | ((with_reducible apply qAd); eq_refl; eq_refl; exact (d1); eq_refl) | (exact qAR g1 rfl rfl) | ((with_reducible first | apply qAc | apply qAa); (conv => lhs; whnf)) | ((with_reducible first | apply qAz | apply qC9) <;> first | eq_refl | exact id)); (first | exact qAh _ | exact qAp _ _ | exact qAr _ _ _ | exact qAq _ _ _ _))) | (with_reducible first | apply qAl | apply qAm | apply qAn | apply qAk | apply qAs | apply qA2 | apply qAF | apply qAX | apply qAC) | ((first | (with_reducible apply rp) | ((with_reducible apply rpG); eq_refl; exact qAo rfl; (focus repeat' (first | exact trivial | exact id | apply And.intro)); intro zg; have zh := zg; (try simp only [zs1, zs2, zs3, zs4] at zg))); first | ((with_reducible apply qAd); eq_refl; eq_refl; exact (d1); eq_refl) | (exact qAR g1 rfl rfl) | ((with_reducible first | apply qAc | apply qAa); (conv => lhs; whnf)) | ((with_reducible first | apply qAz | apply qC9) <;> first | eq_refl | exact id)) | ((with_reducible apply qBl); eq_refl; eq_refl))
        (with_reducible apply qAY); (focus (repeat' (first | (with_reducible apply qAE) | (with_reducible apply qAx) | ((with_reducible apply qAI); eq_refl)))); eq_refl; refine SubD.of_eq ?_
        rfl
      · have g1 : decide ((c.toNat : Int) ≥ 97) = true := decide_eq_true (by omega)
        have g2 : decide ((c.toNat : Int) ≤ 102) = false := decide_eq_false (by omega)
        refine qAM Tryd.func86 rfl (by kernel_rfl) mixed (by kernel_rfl) (qle (by kernel_rfl)) Tryd.results86 ?_
        repeat (first | ((first | (with_reducible apply rpGT) | (with_reducible apply drGT) | (with_reducible apply qAP) | (with_reducible apply qAO)); eq_refl; exact qAo rfl; (first | eq_refl | assumption | decide); (focus repeat' (first | exact trivial | apply And.intro)); ((first | ((with_reducible apply qAd); eq_refl; eq_refl; exact (d1); eq_refl) | (exact qAR g1 rfl rfl) | (exact qB3 g2 rfl rfl) | ((with_reducible first | apply qAc | apply qAa); (conv => lhs; whnf)) | ((with_reducible apply qAz); (iterate 3 eq_refl); exact trivial)); (first | exact qAh _ | exact qAp _ _ | exact qAr _ _ _ | exact qAq _ _ _ _))) | (with_reducible first | apply qAl | apply qAm | apply qAn | apply qAk | apply qAs | apply qA2 | apply qAF | apply qAX | apply qAC) | ((with_reducible apply rp); first | ((with_reducible apply qAd); eq_refl; eq_refl; exact (d1); eq_refl) | (exact qAR g1 rfl rfl) | (exact qB3 g2 rfl rfl) | ((with_reducible apply qAc); (conv => lhs; whnf)) | ((with_reducible apply qAa); (conv => lhs; whnf)) | ((with_reducible apply qAz); (iterate 3 eq_refl); exact trivial)) | ((with_reducible apply qBl); eq_refl; eq_refl))
        (with_reducible apply qAY); (focus (repeat' (first | (with_reducible apply qAE) | (with_reducible apply qAx) | ((with_reducible apply qAI); eq_refl)))); eq_refl; refine SubD.of_eq ?_
        rfl
def hexE : Nat → List UInt8 → Nat
  | 0, _ => 0
  | _ + 1, [] => 0
  | k + 1, c :: l => match hexV c with
    | none => 0
    | some _ => hexE k l + 1
theorem hexE_ok : ∀ (k : Nat) (l : List UInt8) (m v : Nat), hexF k l m = .ok v → hexE k l = k
  | 0, _, _, _, _ => rfl
  | k + 1, [], m, v, h => by cases h
  | k + 1, c :: l, m, v, h => by
    have h : (match hexV c with | none => HR.err 3 | some d => hexF k l (m * 16 + d)) = .ok v := h
    show (match hexV c with | none => 0 | some _ => hexE k l + 1) = _
    cases hv : hexV c with
    | none => rw [hv] at h; cases h
    | some d =>
      rw [hv] at h
      simp only
      rw [hexE_ok k l _ v h]
set_option maxHeartbeats 4000000 in
theorem hex_px (s : ByteArray) (hs : s.size ≤ 1000000) (i : Nat) (hi : i < s.size) (r : LR) (h : hexT (qAN s (i + 1)) = r) :
    PX Tryd.prog 57 [.px 1000 0] (scB s i) [] (lrD r) (scB s (i + 1 + hexE 16 (qAN s (i + 1)))) [] := by
  unfold hexT at h
  refine qBk Tryd.func57 rfl (by kernel_rfl) mixed (by kernel_rfl) (qle (by kernel_rfl)) Tryd.results57 rfl ?_
  repeat (first | ((first | (with_reducible apply rpGT) | (with_reducible apply drGT) | (with_reducible apply qAP) | (with_reducible apply qAO)); eq_refl; (first | exact qAo rfl | exact qAt rfl | exact qAw rfl | exact qAy rfl); (first | eq_refl | assumption | decide); (focus repeat' (first | exact trivial | exact id | apply And.intro | (intro h; (first | exact h | (simp only [Bool.and_eq_true] at h; (first | exact h.1 | exact h.1.1 | exact h.1.1.1 | exact h.2)) | (rw [h]; rfl) | (rw [zh, h]; rfl) | simp_all)))); ((first | (exact qAW (z := ((i + 1 : Nat) : Int)) (by omega) (by omega) (by omega) rfl rfl) | ((with_reducible first | apply qAc | apply qAa); (conv => lhs; whnf)) | ((with_reducible first | apply qAb | apply qAe | apply qAi | apply qAu) <;> first | ((with_reducible apply tyOk); eq_refl) | eq_refl | decide) | ((with_reducible apply qAL); exact tyOk rfl; eq_refl; eq_refl; (conv => lhs; whnf); eq_refl; eq_refl; exact qle rfl)); (first | exact qAh _ | exact qAp _ _ | exact qAr _ _ _ | exact qAq _ _ _ _))) | (with_reducible first | apply qAl | apply qAm | apply qAn | apply qAk | apply qAs) | ((with_reducible apply rp); first | (exact qAW (z := ((i + 1 : Nat) : Int)) (by omega) (by omega) (by omega) rfl rfl) | ((with_reducible apply qAc); (conv => lhs; whnf)) | ((with_reducible apply qAa); (conv => lhs; whnf)) | ((with_reducible apply qAb); exact tyOk rfl; eq_refl; eq_refl; decide; eq_refl) | ((with_reducible apply qAe); exact tyOk rfl; (iterate 4 eq_refl)) | ((with_reducible apply qAi); eq_refl)) | ((with_reducible apply rp1); ((with_reducible apply qAu); exact tyOk rfl; eq_refl)) | ((with_reducible apply rpN); ((with_reducible apply qAL); exact tyOk rfl; eq_refl; eq_refl; (conv => lhs; whnf); eq_refl; eq_refl; exact qle rfl)))
  refine qB5 (fun m st => ∃ k n, k ≤ 16 ∧ n < 16 ^ k ∧ i + 1 + k ≤ s.size ∧ hexF (16 - k) (qAN s (i + 1 + k)) n = hexF 16 (qAN s (i + 1)) 0 ∧ k + hexE (16 - k) (qAN s (i + 1 + k)) = hexE 16 (qAN s (i + 1)) ∧ m = 16 - k ∧ st = ⟨[(0, .px 1000 0), (2, .px 2 0), (4, .d (qD n)), (14, .d (iD (k : Nat)))], [(1000, .var 73 [.d (strD s), .d (iD (i + 1 + k : Nat))]), (2, .var 32 (noT.map .d))]⟩) _ _ ?_ ⟨0, 0, by omega, by decide, by omega, rfl, Nat.zero_add _, rfl, rfl⟩ ?_
  · refine qAT [] (by repeat' (first | exact qA0 | (refine qAH rfl (by exact SubA.refl _) ?_))) (by repeat' (first | exact trivial | eq_refl | apply And.intro)) rfl (insS rfl) (by repeat' (first | exact trivial | exact qBu _ | exact qBc rfl | apply And.intro))
  · rintro m st ⟨k, n, hk, hn, hik, hF, hE, rfl, rfl⟩
    rcases Nat.lt_or_ge k 16 with hlt | hge
    · have hll : decide ((k : Int) < 16) = true := decide_eq_true (by omega)
      have hpw : 16 ^ k ≤ 16 ^ 15 := Nat.pow_le_pow_right (by decide) (by omega)
      have hn2 : n < 1152921504606846976 := Nat.lt_of_lt_of_le hn hpw
      clear hpw
      obtain ⟨j, hj⟩ : ∃ j, 16 - k = j + 1 := ⟨15 - k, by omega⟩
      have hj2 : 16 - (k + 1) = j := by omega
      rw [hj] at hF hE
      rcases Nat.lt_or_ge (i + 1 + k) s.size with h1 | h1
      · have hge : decide (((i + 1 + k : Nat) : Int) ≥ (s.size : Nat)) = false := decide_eq_false (by omega)
        obtain ⟨c, hb, hr⟩ := qCr h1
        rw [hr] at hF hE
        have hF : (match hexV c with | none => HR.err 3 | some d => hexF j (qAN s (i + 1 + k + 1)) (n * 16 + d)) = hexF 16 (qAN s (i + 1)) 0 := hF
        have hE : k + (match hexV c with | none => 0 | some _ => hexE j (qAN s (i + 1 + k + 1)) + 1) = hexE 16 (qAN s (i + 1)) := hE
        cases hv : hexV c with
        | none =>
          rw [hv] at hF hE
          have c1 := hexDigit_no c hv
          rw [← hF] at h
          have h : LR.err 3 = r := h
          subst h
          have hE : k = hexE 16 (qAN s (i + 1)) := hE
          rw [← hE]
          repeat (first | ((first | (with_reducible apply rpGT) | (with_reducible apply drGT) | (with_reducible apply qAP) | (with_reducible apply qAO)); eq_refl; (first | exact qAo rfl | exact qAt rfl | exact qAw rfl | exact qAy rfl); (first | eq_refl | assumption | decide); (focus repeat' (first | exact trivial | exact id | apply And.intro | (intro h; (first | exact h | (simp only [Bool.and_eq_true] at h; (first | exact h.1 | exact h.1.1 | exact h.1.1.1 | exact h.2)) | (rw [h]; rfl) | (rw [zh, h]; rfl) | simp_all)))); ((first | (exact qA4 hll rfl rfl) | (exact qAR hge rfl rfl) | ((with_reducible apply qAd); eq_refl; eq_refl; exact (c1); eq_refl) | ((with_reducible first | apply qAc | apply qAa); (conv => lhs; whnf)) | ((with_reducible first | apply qAb | apply qAe | apply qBn | apply qAv | apply qAg | apply qA9 | apply qAi | apply qAf) <;> first | ((with_reducible apply tyOk); eq_refl) | eq_refl | decide) | ((with_reducible apply qAj); exact tyOk rfl; (iterate 4 eq_refl); assumption)); (first | exact qAh _ | exact qAp _ _ | exact qAr _ _ _ | exact qAq _ _ _ _))) | (with_reducible first | apply qAl | apply qAm | apply qAn | apply qAk | apply qBi | apply qAs | apply qAF | apply qBs | apply qBN | apply qBD | apply qAC) | ((with_reducible apply qBt); (first | kernel_rfl | eq_refl)) | ((with_reducible first | apply rp | apply dr); first | (exact qA4 hll rfl rfl) | (exact qAR hge rfl rfl) | ((with_reducible apply qAd); eq_refl; eq_refl; exact (c1); eq_refl) | ((with_reducible first | apply qAc | apply qAa); (conv => lhs; whnf)) | ((with_reducible first | apply qAb | apply qAe | apply qBn | apply qAv | apply qAg | apply qA9 | apply qAi) <;> first | ((with_reducible apply tyOk); eq_refl) | eq_refl | decide) | ((with_reducible apply qAj); exact tyOk rfl; (iterate 4 eq_refl); assumption)) | ((with_reducible apply rpN); ((with_reducible apply qAf); exact tyOk rfl; (iterate 5 eq_refl))) | ((with_reducible apply qBl); eq_refl; eq_refl) | ((with_reducible apply qBr); eq_refl; eq_refl))
          (with_reducible apply qBa (l := [])); (focus (repeat' (first | (with_reducible apply qAE) | (with_reducible apply qAx) | ((with_reducible apply qAI); eq_refl) | ((with_reducible apply qBh); eq_refl; eq_refl; exact tyOk rfl; eq_refl; eq_refl)))); eq_refl; exact SubD.refl _; refine ⟨(by repeat' (first | exact qA0 | (refine qAH rfl (by exact SubA.refl _) ?_))), (by repeat' (first | exact trivial | eq_refl | apply And.intro)), rfl, insS rfl, (by repeat' (first | exact trivial | exact qBc rfl | apply And.intro))⟩
        | some d =>
          rw [hv] at hF hE
          have c1 := hexDigit_yes c d hv
          have hd := hexV_lt hv
          simp only at hF hE
          repeat (first | ((first | (with_reducible apply rpGT) | (with_reducible apply drGT) | (with_reducible apply qAP) | (with_reducible apply qAO)); eq_refl; (first | exact qAo rfl | exact qAt rfl | exact qAw rfl | exact qAy rfl); (first | eq_refl | assumption | decide); (focus repeat' (first | exact trivial | exact id | apply And.intro | (intro h; (first | exact h | (simp only [Bool.and_eq_true] at h; (first | exact h.1 | exact h.1.1 | exact h.1.1.1 | exact h.2)) | (rw [h]; rfl) | (rw [zh, h]; rfl) | simp_all)))); ((first | (exact qA4 hll rfl rfl) | (exact qAR hge rfl rfl) | ((with_reducible apply qAd); eq_refl; eq_refl; exact (c1); eq_refl) | (exact qAW (z := ((i + 1 + (k + 1) : Nat) : Int)) (by omega) (by omega) (by omega) rfl rfl) | (exact qAW (z := ((k + 1 : Nat) : Int)) (by omega) (by omega) (by omega) rfl rfl) | (exact does_shl4 hn2 rfl rfl rfl) | (exact does_or4 hn2 hd rfl rfl) | ((with_reducible first | apply qAc | apply qAa); (conv => lhs; whnf)) | ((with_reducible first | apply qAb | apply qAe | apply qBn | apply qAv | apply qAg | apply qAi) <;> first | ((with_reducible apply tyOk); eq_refl) | eq_refl | decide) | ((with_reducible apply qAj); exact tyOk rfl; (iterate 4 eq_refl); assumption) | ((with_reducible apply qAL); exact tyOk rfl; eq_refl; eq_refl; (conv => lhs; whnf); eq_refl; eq_refl; exact qle rfl)); (first | exact qAh _ | exact qAp _ _ | exact qAr _ _ _ | exact qAq _ _ _ _))) | (with_reducible first | apply qAl | apply qAm | apply qAn | apply qAk | apply qBi | apply qAs | apply qA2 | apply qAC) | ((with_reducible apply qBt); (first | kernel_rfl | eq_refl)) | ((with_reducible first | apply rp | apply dr); first | (exact qA4 hll rfl rfl) | (exact qAR hge rfl rfl) | ((with_reducible apply qAd); eq_refl; eq_refl; exact (c1); eq_refl) | (exact qAW (z := ((i + 1 + (k + 1) : Nat) : Int)) (by omega) (by omega) (by omega) rfl rfl) | (exact qAW (z := ((k + 1 : Nat) : Int)) (by omega) (by omega) (by omega) rfl rfl) | (exact does_shl4 hn2 rfl rfl rfl) | (exact does_or4 hn2 hd rfl rfl) | ((with_reducible first | apply qAc | apply qAa); (conv => lhs; whnf)) | ((with_reducible first | apply qAb | apply qAe | apply qBn | apply qAv | apply qAg | apply qAi) <;> first | ((with_reducible apply tyOk); eq_refl) | eq_refl | decide) | ((with_reducible apply qAj); exact tyOk rfl; (iterate 4 eq_refl); assumption)) | ((with_reducible apply rpN); ((with_reducible apply qAL); exact tyOk rfl; eq_refl; eq_refl; (conv => lhs; whnf); eq_refl; eq_refl; exact qle rfl)) | ((with_reducible apply qBl); eq_refl; eq_refl) | ((with_reducible apply qBr); eq_refl; eq_refl))
          refine ⟨_, _, ?_, ?_, k + 1, n * 16 + d, by omega, by rw [Nat.pow_succ]; omega, by omega, by rw [hj2]; exact hF, by rw [hj2]; show k + 1 + hexE j (qAN s (i + 1 + k + 1)) = _; omega, rfl, rfl⟩
          · omega
          · refine qAT [] (by repeat' (first | exact qA0 | (refine qAH rfl (by exact SubA.refl _) ?_))) (by repeat' (first | exact trivial | eq_refl | apply And.intro)) rfl (insS rfl) (by repeat' (first | exact trivial | exact qBu _ | exact qBc rfl | apply And.intro))
      · have hge : decide (((i + 1 + k : Nat) : Int) ≥ (s.size : Nat)) = true := decide_eq_true (by omega)
        rw [qDt h1] at hF hE
        rw [← hF] at h
        have h : LR.err 4 = r := h
        subst h
        have hE : k = hexE 16 (qAN s (i + 1)) := hE
        rw [← hE]
        repeat (first | ((first | (with_reducible apply rpGT) | (with_reducible apply drGT) | (with_reducible apply qAP) | (with_reducible apply qAO)); eq_refl; (first | exact qAo rfl | exact qAt rfl | exact qAw rfl | exact qAy rfl); (first | eq_refl | assumption | decide); (focus repeat' (first | exact trivial | exact id | apply And.intro | (intro h; (first | exact h | (simp only [Bool.and_eq_true] at h; (first | exact h.1 | exact h.1.1 | exact h.1.1.1 | exact h.2)) | (rw [h]; rfl) | (rw [zh, h]; rfl) | simp_all)))); ((first | (exact qA4 hll rfl rfl) | (exact qAR hge rfl rfl) | ((with_reducible first | apply qAc | apply qAa); (conv => lhs; whnf)) | ((with_reducible first | apply qAb | apply qAe | apply qAg | apply qA9 | apply qAi | apply qAf) <;> first | ((with_reducible apply tyOk); eq_refl) | eq_refl | decide)); (first | exact qAh _ | exact qAp _ _ | exact qAr _ _ _ | exact qAq _ _ _ _))) | (with_reducible first | apply qAl | apply qAm | apply qAn | apply qAk | apply qBi | apply qAs | apply qAF | apply qBs | apply qBN | apply qBD | apply qAC) | ((with_reducible apply qBt); (first | kernel_rfl | eq_refl)) | ((with_reducible first | apply rp | apply dr); first | (exact qA4 hll rfl rfl) | (exact qAR hge rfl rfl) | ((with_reducible first | apply qAc | apply qAa); (conv => lhs; whnf)) | ((with_reducible first | apply qAb | apply qAe | apply qAg | apply qA9 | apply qAi) <;> first | ((with_reducible apply tyOk); eq_refl) | eq_refl | decide)) | ((with_reducible apply rpN); ((with_reducible apply qAf); exact tyOk rfl; (iterate 5 eq_refl))) | ((with_reducible apply qBr); eq_refl; eq_refl))
        (with_reducible apply qBa (l := [])); (focus (repeat' (first | (with_reducible apply qAE) | (with_reducible apply qAx) | ((with_reducible apply qAI); eq_refl) | ((with_reducible apply qBh); eq_refl; eq_refl; exact tyOk rfl; eq_refl; eq_refl)))); eq_refl; exact SubD.refl _; refine ⟨(by repeat' (first | exact qA0 | (refine qAH rfl (by exact SubA.refl _) ?_))), (by repeat' (first | exact trivial | eq_refl | apply And.intro)), rfl, insS rfl, (by repeat' (first | exact trivial | exact qBc rfl | apply And.intro))⟩
    · obtain rfl : k = 16 := by omega
      have hll : decide (((16 : Nat) : Int) < 16) = false := rfl
      have hF : HR.ok n = hexF 16 (qAN s (i + 1)) 0 := hF
      have hE : 16 = hexE 16 (qAN s (i + 1)) := hE
      rw [← hF] at h
      rw [← hE]
      have c1 := check_pc ⟨3, 0, n, .empty⟩ (by show ByteArray.empty.size ≤ _; decide)
      have c1 : PC Tryd.prog 37 [.ag [iD 3, iD 0, qD n, strD .empty]] (iD (chkV ⟨3, 0, n, .empty⟩)) := c1
      have h : (if hexOk n then LR.ok ⟨5, .empty, 0, n⟩ 17 else LR.err 3) = r := h
      by_cases ho : hexOk n
      · rw [if_pos ho] at h
        subst h
        have ho2 : chkV ⟨3, 0, n, .empty⟩ = 0 := ho
        rw [ho2] at c1
        repeat (first | ((first | (with_reducible apply rpGT) | (with_reducible apply drGT) | (with_reducible apply qAP) | (with_reducible apply qAO)); eq_refl; (first | exact qAo rfl | exact qAt rfl | exact qAw rfl | exact qAy rfl); (first | eq_refl | assumption | decide); (focus repeat' (first | exact trivial | exact id | apply And.intro | (intro h; (first | exact h | (simp only [Bool.and_eq_true] at h; (first | exact h.1 | exact h.1.1 | exact h.1.1.1 | exact h.2)) | (rw [h]; rfl) | (rw [zh, h]; rfl) | simp_all)))); ((first | (exact qA4 hll rfl rfl) | ((with_reducible apply qAd); eq_refl; eq_refl; exact (c1); eq_refl) | ((with_reducible first | apply qAc | apply qAa); (conv => lhs; whnf)) | ((with_reducible first | apply qBq | apply qAf) <;> first | ((with_reducible apply tyOk); eq_refl) | eq_refl) | ((with_reducible apply qAQ); exact tyOk rfl; eq_refl; eq_refl; (focus repeat' (first | eq_refl | refine ⟨_, _, rfl, rfl, qle rfl, rfl, ?_⟩)); eq_refl)); (first | exact qAh _ | exact qAp _ _ | exact qAr _ _ _ | exact qAq _ _ _ _))) | (with_reducible first | apply qAl | apply qAm | apply qAn | apply qAk | apply qBJ | apply qBL | apply qBK | apply qAF | apply qBD | apply qAC) | ((with_reducible apply rp); first | (exact qA4 hll rfl rfl) | ((with_reducible apply qAd); eq_refl; eq_refl; exact (c1); eq_refl) | ((with_reducible apply qAc); (conv => lhs; whnf)) | ((with_reducible apply qAa); (conv => lhs; whnf)) | ((with_reducible apply qBq); eq_refl; eq_refl) | ((with_reducible apply qAQ); exact tyOk rfl; eq_refl; eq_refl; (focus repeat' (first | eq_refl | refine ⟨_, _, rfl, rfl, qle rfl, rfl, ?_⟩)); eq_refl)) | ((with_reducible apply rpN); ((with_reducible apply qAf); exact tyOk rfl; (iterate 5 eq_refl))) | ((with_reducible apply qBl); eq_refl; eq_refl))
        (with_reducible apply qBa (l := [])); (focus (repeat' (first | (with_reducible apply qAE) | (with_reducible apply qAx) | ((with_reducible apply qAI); eq_refl) | ((with_reducible apply qBh); eq_refl; eq_refl; exact tyOk rfl; eq_refl; eq_refl)))); eq_refl; exact SubD.refl _; refine ⟨(by repeat' (first | exact qA0 | (refine qAH rfl (by exact SubA.refl _) ?_))), (by repeat' (first | exact trivial | eq_refl | apply And.intro)), rfl, insS rfl, (by repeat' (first | exact trivial | exact qBc rfl | apply And.intro))⟩
      · rw [if_neg ho] at h
        subst h
        have ho2 : (((chkV ⟨3, 0, n, .empty⟩ : Nat) : Int) != 0) = true := by rw [bne_iff_ne]; intro e; exact ho (by omega)
        generalize chkV ⟨3, 0, n, .empty⟩ = cv at *
        repeat (first | ((first | (with_reducible apply rpGT) | (with_reducible apply drGT) | (with_reducible apply qAP) | (with_reducible apply qAO)); eq_refl; (first | exact qAo rfl | exact qAt rfl | exact qAw rfl | exact qAy rfl); (first | eq_refl | assumption | decide); (focus repeat' (first | exact trivial | exact id | apply And.intro | (intro h; (first | exact h | (simp only [Bool.and_eq_true] at h; (first | exact h.1 | exact h.1.1 | exact h.1.1.1 | exact h.2)) | (rw [h]; rfl) | (rw [zh, h]; rfl) | simp_all)))); ((first | (exact qA4 hll rfl rfl) | ((with_reducible apply qAd); eq_refl; eq_refl; exact (c1); eq_refl) | (exact qBT ho2 rfl rfl) | ((with_reducible first | apply qAc | apply qAa); (conv => lhs; whnf)) | ((with_reducible first | apply qA9 | apply qAf) <;> first | ((with_reducible apply tyOk); eq_refl) | eq_refl) | ((with_reducible apply qAQ); exact tyOk rfl; eq_refl; eq_refl; (focus repeat' (first | eq_refl | refine ⟨_, _, rfl, rfl, qle rfl, rfl, ?_⟩)); eq_refl)); (first | exact qAh _ | exact qAp _ _ | exact qAr _ _ _ | exact qAq _ _ _ _))) | (with_reducible first | apply qAl | apply qAm | apply qAn | apply qAk | apply qBJ | apply qBL | apply qBK | apply qAF | apply qBs | apply qBD) | ((with_reducible apply rp); first | (exact qA4 hll rfl rfl) | ((with_reducible apply qAd); eq_refl; eq_refl; exact (c1); eq_refl) | (exact qBT ho2 rfl rfl) | ((with_reducible apply qAc); (conv => lhs; whnf)) | ((with_reducible apply qAa); (conv => lhs; whnf)) | ((with_reducible apply qA9); exact tyOk rfl; eq_refl; eq_refl) | ((with_reducible apply qAQ); exact tyOk rfl; eq_refl; eq_refl; (focus repeat' (first | eq_refl | refine ⟨_, _, rfl, rfl, qle rfl, rfl, ?_⟩)); eq_refl)) | ((with_reducible apply rpN); ((with_reducible apply qAf); exact tyOk rfl; (iterate 5 eq_refl))) | ((with_reducible apply qBl); eq_refl; eq_refl) | ((with_reducible apply qBr); eq_refl; eq_refl))
        (with_reducible apply qBa (l := [])); (focus (repeat' (first | (with_reducible apply qAE) | (with_reducible apply qAx) | ((with_reducible apply qAI); eq_refl) | ((with_reducible apply qBh); eq_refl; eq_refl; exact tyOk rfl; eq_refl; eq_refl)))); eq_refl; exact SubD.refl _; refine ⟨(by repeat' (first | exact qA0 | (refine qAH rfl (by exact SubA.refl _) ?_))), (by repeat' (first | exact trivial | eq_refl | apply And.intro)), rfl, insS rfl, (by repeat' (first | exact trivial | exact qBc rfl | apply And.intro))⟩
theorem byS_inj {a b : List UInt8} (h : byS a = byS b) : a = b := by
  have := congrArg (fun s : ByteArray => s.data.toList) h
  simpa using this
theorem sgn_not {l : List UInt8} (h : l ∉ sgnL) : ∀ a ∈ qBH, ((byS l).toList == a.toList) = false := by
  intro a ha
  rw [beq_eq_false_iff_ne]
  intro e
  rw [bytes_eq] at e
  subst e
  refine h ?_
  unfold qBH at ha
  simp only [List.mem_cons, List.not_mem_nil, or_false] at ha
  have hi : ∀ k : List UInt8, byS l = ⟨k.toArray⟩ → l = k := fun k hk => byS_inj hk
  rcases ha with e | e | e | e | e | e | e | e | e | e | e | e | e | e | e | e <;> rw [hi _ e] <;> simp [sgnL]
set_option maxHeartbeats 4000000 in
theorem lexSignNo_pc (l : List UInt8) (h : l ∉ sgnL) : PC Tryd.prog 38 [strD (byS l)] (bD false) := by
  have hne := sgn_not h
  refine qAM Tryd.func38 rfl (by kernel_rfl) mixed (by kernel_rfl) (qle (by kernel_rfl)) Tryd.results38 ?_
  repeat (first | ((first | (with_reducible apply rpGT) | (with_reducible apply drGT) | (with_reducible apply qAP) | (with_reducible apply qAO)); eq_refl; (first | exact qAo rfl | exact qAt rfl | exact qAw rfl | exact qAy rfl); (first | eq_refl | assumption | decide); (focus repeat' (first | exact trivial | exact id | apply And.intro | (intro h; (first | exact h | (simp only [Bool.and_eq_true] at h; (first | exact h.1 | exact h.1.1 | exact h.1.1.1 | exact h.2)) | (rw [h]; rfl) | (rw [zh, h]; rfl) | simp_all)))); ((first | (exact qCn (hne _ (by simp [qBH])) rfl rfl) | ((with_reducible first | apply qAc | apply qAa); (conv => lhs; whnf))); (first | exact qAh _ | exact qAp _ _ | exact qAr _ _ _ | exact qAq _ _ _ _))) | (with_reducible first | apply qAl | apply qAm | apply qAn | apply qAk | apply qAs | apply qA2 | apply qAF | apply qAX | apply qAC) | ((with_reducible apply rp); first | (exact qCn (hne _ (by simp [qBH])) rfl rfl) | ((with_reducible apply qAc); (conv => lhs; whnf)) | ((with_reducible apply qAa); (conv => lhs; whnf))) | ((with_reducible apply qBl); eq_refl; eq_refl))
  (with_reducible apply qAY); (focus (repeat' (first | (with_reducible apply qAE) | (with_reducible apply qAx) | ((with_reducible apply qAI); eq_refl)))); eq_refl; refine SubD.of_eq ?_
  rfl
theorem lexSignB_pc (l : List UInt8) (b : Bool) (hb : decide (l ∈ sgnL) = b) : PC Tryd.prog 38 [strD (byS l)] (bD b) := by
  by_cases h : l ∈ sgnL
  · rw [decide_eq_true h] at hb
    subst hb
    exact lexSign_pc _ (sgn_mem h)
  · rw [decide_eq_false h] at hb
    subst hb
    exact lexSignNo_pc l h
def sgF (l : List UInt8) : Nat → LR × Nat
  | 0 => (.err 3, 0)
  | n + 1 => if l.take (n + 1) ∈ sgnL ∧ n + 1 ≤ l.length then (.ok ⟨6, ⟨(l.take (n + 1)).toArray⟩, 0, 0⟩ (n + 1), n + 1) else sgF l n
theorem sgF_T (l : List UInt8) : sgnT l = (sgF l 2).1 := by
  unfold sgnT
  show _ = (if l.take 2 ∈ sgnL ∧ 2 ≤ l.length then _ else if l.take 1 ∈ sgnL ∧ 1 ≤ l.length then _ else _ : LR × Nat).1
  split
  · rfl
  · split <;> rfl
theorem sgF_n (l : List UInt8) : ∀ (n k : Nat) (t : Tk), (sgF l k).1 = .ok t n → (sgF l k).2 = n
  | n, 0, t, h => by cases h
  | n, k + 1, t, h => by
    unfold sgF at h ⊢
    split at h
    · rename_i hc
      rw [if_pos hc]
      injection h with _ h
    · rename_i hc
      rw [if_neg hc]
      exact sgF_n l n k t h
set_option maxHeartbeats 4000000 in
theorem sign_px (s : ByteArray) (hs : s.size ≤ 1000000) (i : Nat) (hi : i < s.size) :
    PX Tryd.prog 58 [.px 1000 0] (scB s i) [] (lrD (sgF (qAN s i) 2).1) (scB s (i + (sgF (qAN s i) 2).2)) [] := by
  have hrl := qCy s i
  have hx : ∀ n, s.extract i (i + n) = byS ((qAN s i).take n) := fun n => by rw [qEu]; congr 2; omega
  refine qBk Tryd.func58 rfl (by kernel_rfl) mixed (by kernel_rfl) (qle (by kernel_rfl)) Tryd.results58 rfl ?_
  repeat (first | ((first | (with_reducible apply rpGT) | (with_reducible apply drGT) | (with_reducible apply qAP) | (with_reducible apply qAO)); eq_refl; (first | exact qAo rfl | exact qAt rfl | exact qAw rfl | exact qAy rfl); (first | eq_refl | assumption | decide); (focus repeat' (first | exact trivial | exact id | apply And.intro | (intro h; (first | exact h | (simp only [Bool.and_eq_true] at h; (first | exact h.1 | exact h.1.1 | exact h.1.1.1 | exact h.2)) | (rw [h]; rfl) | (rw [zh, h]; rfl) | simp_all)))); ((first | ((with_reducible apply qAa); (conv => lhs; whnf)) | ((with_reducible apply qAu); exact tyOk rfl; eq_refl)); (first | exact qAh _ | exact qAp _ _ | exact qAr _ _ _ | exact qAq _ _ _ _))) | (with_reducible first | apply qAl | apply qAm | apply qAn | apply qAk | apply qAs) | ((with_reducible apply rp); ((with_reducible apply qAa); (conv => lhs; whnf))) | ((with_reducible apply rp1); ((with_reducible apply qAu); exact tyOk rfl; eq_refl)))
  refine qB5 (fun m st => ∃ n : Nat, n ≤ 2 ∧ sgF (qAN s i) n = sgF (qAN s i) 2 ∧ n = m ∧ st = ⟨[(0, .px 1000 0), (2, .px 2 0), (4, .d (iD (n : Nat)))], [(1000, .var 73 [.d (strD s), .d (iD i)]), (2, .var 32 (noT.map .d))]⟩) _ _ ?_ ⟨2, by omega, rfl, rfl, rfl⟩ ?_
  · refine qAT [] (by repeat' (first | exact qA0 | (refine qAH rfl (by exact SubA.refl _) ?_))) (by repeat' (first | exact trivial | eq_refl | apply And.intro)) rfl (insS rfl) (by repeat' (first | exact trivial | exact qBu _ | exact qBc rfl | apply And.intro))
  · rintro m st ⟨n, hn, he, rfl, rfl⟩
    rw [← he]
    cases n with
    | zero =>
      have hg : decide (((0 : Nat) : Int) ≥ 1) = false := rfl
      repeat (first | ((first | (with_reducible apply rpGT) | (with_reducible apply drGT) | (with_reducible apply qAP) | (with_reducible apply qAO)); eq_refl; (first | exact qAo rfl | exact qAt rfl | exact qAw rfl | exact qAy rfl); (first | eq_refl | assumption | decide); (focus repeat' (first | exact trivial | exact id | apply And.intro | (intro h; (first | exact h | (simp only [Bool.and_eq_true] at h; (first | exact h.1 | exact h.1.1 | exact h.1.1.1 | exact h.2)) | (rw [h]; rfl) | (rw [zh, h]; rfl) | simp_all)))); ((first | (exact qAR hg rfl rfl) | ((with_reducible first | apply qAc | apply qAa); (conv => lhs; whnf)) | ((with_reducible first | apply qA9 | apply qAf) <;> first | ((with_reducible apply tyOk); eq_refl) | eq_refl)); (first | exact qAh _ | exact qAp _ _ | exact qAr _ _ _ | exact qAq _ _ _ _))) | (with_reducible first | apply qAl | apply qAm | apply qAn | apply qAk | apply qBJ | apply qBL | apply qBK | apply qAF | apply qBD) | ((with_reducible apply rp); first | (exact qAR hg rfl rfl) | ((with_reducible apply qAc); (conv => lhs; whnf)) | ((with_reducible apply qAa); (conv => lhs; whnf)) | ((with_reducible apply qA9); exact tyOk rfl; eq_refl; eq_refl)) | ((with_reducible apply rpN); ((with_reducible apply qAf); exact tyOk rfl; (iterate 5 eq_refl))) | ((with_reducible apply qBl); eq_refl; eq_refl))
      (with_reducible apply qBa (l := [])); (focus (repeat' (first | (with_reducible apply qAE) | (with_reducible apply qAx) | ((with_reducible apply qAI); eq_refl) | ((with_reducible apply qBh); eq_refl; eq_refl; exact tyOk rfl; eq_refl; eq_refl)))); eq_refl; exact SubD.refl _; refine ⟨(by repeat' (first | exact qA0 | (refine qAH rfl (by exact SubA.refl _) ?_))), (by repeat' (first | exact trivial | eq_refl | apply And.intro)), rfl, insS rfl, (by repeat' (first | exact trivial | exact qBc rfl | apply And.intro))⟩
    | succ k =>
      have hg : decide (((k + 1 : Nat) : Int) ≥ 1) = true := decide_eq_true (by omega)
      have c1 := lexSignB_pc ((qAN s i).take (k + 1)) _ rfl
      have hxk := hx (k + 1)
      rw [sgF] at he ⊢
      rw [hrl] at he ⊢
      rcases Nat.lt_or_ge s.size (i + (k + 1)) with hlt | hge
      · have hl : decide (((i + (k + 1) : Nat) : Int) ≤ (s.size : Nat)) = false := decide_eq_false (by omega)
        rw [if_neg fun e => by omega] at he ⊢
        rw [he]
        repeat (first | ((first | (with_reducible apply rpGT) | (with_reducible apply drGT) | (with_reducible apply qAP) | (with_reducible apply qAO)); eq_refl; exact qAo rfl; (first | eq_refl | assumption | decide); (focus repeat' (first | exact trivial | exact id | apply And.intro)); ((first | (exact qAR hg rfl rfl) | (exact qAW (z := ((i + (k + 1) : Nat) : Int)) (by omega) (by omega) (by omega) rfl rfl) | (exact qB3 hl rfl rfl) | (exact qBj (z := (k : Nat)) (by omega) (by omega) (by omega) rfl rfl) | ((with_reducible first | apply qAc | apply qAa); (conv => lhs; whnf)) | ((with_reducible apply qB6); eq_refl; (first | assumption | decide); (conv => lhs; whnf)) | ((with_reducible first | apply qAb | apply qAe | apply qAg | apply qAi) <;> first | ((with_reducible apply tyOk); eq_refl) | eq_refl | decide)); (first | exact qAh _ | exact qAp _ _ | exact qAr _ _ _ | exact qAq _ _ _ _))) | (with_reducible first | apply qAl | apply qAm | apply qAn | apply qAk | apply qBi | apply qAs | apply qA2 | apply qAC) | ((with_reducible apply qBt); (first | kernel_rfl | eq_refl)) | ((first | (with_reducible first | apply rp | apply dr) | ((with_reducible apply drG); eq_refl; exact qAo rfl; (focus repeat' (first | exact trivial | exact id | apply And.intro)); intro zg; have zh := zg; (try simp only [zs1, zs2, zs3, zs4] at zg))); first | (exact qAR hg rfl rfl) | (exact qAW (z := ((i + (k + 1) : Nat) : Int)) (by omega) (by omega) (by omega) rfl rfl) | (exact qB3 hl rfl rfl) | (exact qBj (z := (k : Nat)) (by omega) (by omega) (by omega) rfl rfl) | ((with_reducible first | apply qAc | apply qAa); (conv => lhs; whnf)) | ((with_reducible apply qB6); eq_refl; (first | assumption | decide); (conv => lhs; whnf)) | ((with_reducible first | apply qAb | apply qAe | apply qAg | apply qAi) <;> first | ((with_reducible apply tyOk); eq_refl) | eq_refl | decide)) | ((with_reducible apply qBl); eq_refl; eq_refl) | ((with_reducible apply qBr); eq_refl; eq_refl) | ((first | (with_reducible apply rpGF) | (with_reducible apply drGF)); eq_refl; exact qAo rfl; (first | assumption | decide | eq_refl); (focus repeat' (first | exact trivial | exact id | apply And.intro))))
        refine ⟨_, _, ?_, ?_, k, by omega, he, rfl, rfl⟩
        · omega
        · refine qAT [] (by repeat' (first | exact qA0 | (refine qAH rfl (by exact SubA.refl _) ?_))) (by repeat' (first | exact trivial | eq_refl | apply And.intro)) rfl (insS rfl) (by repeat' (first | exact trivial | exact qBu _ | exact qBc rfl | apply And.intro))
      · have hl : decide (((i + (k + 1) : Nat) : Int) ≤ (s.size : Nat)) = true := decide_eq_true (by omega)
        by_cases hm : (qAN s i).take (k + 1) ∈ sgnL
        · rw [decide_eq_true hm] at c1
          rw [if_pos ⟨hm, by omega⟩]
          clear hm he
          show AW _ _ _ _
          generalize (qAN s i).take (k + 1) = u at *
          repeat (first | ((first | (with_reducible apply rpGT) | (with_reducible apply drGT) | (with_reducible apply qAP) | (with_reducible apply qAO)); eq_refl; exact qAo rfl; (first | eq_refl | assumption | decide); (focus repeat' (first | exact trivial | apply And.intro)); ((first | (exact qAR hg rfl rfl) | (exact qAW (z := ((i + (k + 1) : Nat) : Int)) (by omega) (by omega) (by omega) rfl rfl) | (exact qB3 hl rfl rfl) | (exact qA5 (l := i) (h := i + (k + 1)) (tyOk rfl) rfl rfl ⟨_, _, rfl, rfl⟩ ⟨_, _, rfl, rfl⟩ (by omega) (by omega) hxk) | ((with_reducible apply qAd); eq_refl; eq_refl; exact (c1); eq_refl) | (exact qBj (z := (i : Nat)) (by omega) (by omega) (by omega) rfl rfl) | ((with_reducible first | apply qAc | apply qAa); (conv => lhs; whnf)) | ((with_reducible first | apply qAz | apply qAb | apply qAe | apply qAg | apply qAi) <;> first | ((with_reducible apply tyOk); eq_refl) | eq_refl | exact trivial | decide) | ((with_reducible apply qAQ); exact tyOk rfl; eq_refl; eq_refl; (focus repeat' (first | eq_refl | refine ⟨_, _, rfl, rfl, qle rfl, rfl, ?_⟩)); eq_refl) | ((with_reducible apply qAL); exact tyOk rfl; eq_refl; eq_refl; (conv => lhs; whnf); eq_refl; eq_refl; exact qle rfl) | ((with_reducible apply qAf); exact tyOk rfl; (iterate 5 eq_refl))); (first | exact qAh _ | exact qAp _ _ | exact qAr _ _ _ | exact qAq _ _ _ _))) | (with_reducible first | apply qAl | apply qAm | apply qAn | apply qAk | apply qBi | apply qAs | apply qAF | apply qBs | apply qBN | apply qBD | apply qAC) | ((with_reducible apply qBt); (first | kernel_rfl | eq_refl)) | ((with_reducible first | apply rp | apply dr); first | (exact qAR hg rfl rfl) | (exact qAW (z := ((i + (k + 1) : Nat) : Int)) (by omega) (by omega) (by omega) rfl rfl) | (exact qB3 hl rfl rfl) | (exact qA5 (l := i) (h := i + (k + 1)) (tyOk rfl) rfl rfl ⟨_, _, rfl, rfl⟩ ⟨_, _, rfl, rfl⟩ (by omega) (by omega) hxk) | ((with_reducible apply qAd); eq_refl; eq_refl; exact (c1); eq_refl) | (exact qBj (z := (i : Nat)) (by omega) (by omega) (by omega) rfl rfl) | ((with_reducible first | apply qAc | apply qAa); (conv => lhs; whnf)) | ((with_reducible first | apply qAz | apply qAb | apply qAe | apply qAg | apply qAi) <;> first | ((with_reducible apply tyOk); eq_refl) | eq_refl | exact trivial | decide) | ((with_reducible apply qAQ); exact tyOk rfl; eq_refl; eq_refl; (focus repeat' (first | eq_refl | refine ⟨_, _, rfl, rfl, qle rfl, rfl, ?_⟩)); eq_refl)) | ((with_reducible first | apply rpN | apply drN); first | ((with_reducible apply qAL); exact tyOk rfl; eq_refl; eq_refl; (conv => lhs; whnf); eq_refl; eq_refl; exact qle rfl) | ((with_reducible apply qAf); exact tyOk rfl; (iterate 5 eq_refl))) | ((with_reducible apply qBr); eq_refl; eq_refl))
          (with_reducible apply qBa (l := [])); (focus (repeat' (first | (with_reducible apply qAE) | (with_reducible apply qAx) | ((with_reducible apply qAI); eq_refl) | ((with_reducible apply qBh); eq_refl; eq_refl; exact tyOk rfl; eq_refl; eq_refl)))); eq_refl; exact SubD.refl _; refine ⟨(by repeat' (first | exact qA0 | (refine qAH rfl (by exact SubA.refl _) ?_))), (by repeat' (first | exact trivial | eq_refl | apply And.intro)), rfl, insS rfl, (by repeat' (first | exact trivial | exact qBc rfl | apply And.intro))⟩
        · rw [decide_eq_false hm] at c1
          rw [if_neg fun e => hm e.1] at he ⊢
          rw [he]
          clear hm
          generalize hu : (qAN s i).take (k + 1) = u at *
          repeat (first | ((first | (with_reducible apply rpGT) | (with_reducible apply drGT) | (with_reducible apply qAP) | (with_reducible apply qAO)); eq_refl; exact qAo rfl; (first | eq_refl | assumption | decide); (focus repeat' (first | exact trivial | apply And.intro)); ((first | (exact qAR hg rfl rfl) | (exact qAW (z := ((i + (k + 1) : Nat) : Int)) (by omega) (by omega) (by omega) rfl rfl) | (exact qB3 hl rfl rfl) | (exact qA5 (l := i) (h := i + (k + 1)) (tyOk rfl) rfl rfl ⟨_, _, rfl, rfl⟩ ⟨_, _, rfl, rfl⟩ (by omega) (by omega) hxk) | ((with_reducible apply qAd); eq_refl; eq_refl; exact (c1); eq_refl) | (exact qBj (z := (k : Nat)) (by omega) (by omega) (by omega) rfl rfl) | ((with_reducible first | apply qAc | apply qAa); (conv => lhs; whnf)) | ((with_reducible first | apply qAz | apply qAb | apply qAe | apply qAg | apply qAi) <;> first | ((with_reducible apply tyOk); eq_refl) | eq_refl | exact trivial | decide)); (first | exact qAh _ | exact qAp _ _ | exact qAr _ _ _ | exact qAq _ _ _ _))) | (with_reducible first | apply qAl | apply qAm | apply qAn | apply qAk | apply qBi | apply qAs | apply qA2 | apply qAC) | ((with_reducible apply qBt); (first | kernel_rfl | eq_refl)) | ((with_reducible first | apply rp | apply dr); first | (exact qAR hg rfl rfl) | (exact qAW (z := ((i + (k + 1) : Nat) : Int)) (by omega) (by omega) (by omega) rfl rfl) | (exact qB3 hl rfl rfl) | (exact qA5 (l := i) (h := i + (k + 1)) (tyOk rfl) rfl rfl ⟨_, _, rfl, rfl⟩ ⟨_, _, rfl, rfl⟩ (by omega) (by omega) hxk) | ((with_reducible apply qAd); eq_refl; eq_refl; exact (c1); eq_refl) | (exact qBj (z := (k : Nat)) (by omega) (by omega) (by omega) rfl rfl) | ((with_reducible first | apply qAc | apply qAa); (conv => lhs; whnf)) | ((with_reducible first | apply qAz | apply qAb | apply qAe | apply qAg | apply qAi) <;> first | ((with_reducible apply tyOk); eq_refl) | eq_refl | exact trivial | decide)) | ((with_reducible apply qBl); eq_refl; eq_refl) | ((with_reducible apply qBr); eq_refl; eq_refl))
          refine ⟨_, _, ?_, ?_, k, by omega, he, rfl, rfl⟩
          · omega
          · refine qAT [] (by repeat' (first | exact qA0 | (refine qAH rfl (by exact SubA.refl _) ?_))) (by repeat' (first | exact trivial | eq_refl | apply And.intro)) rfl (insS rfl) (by repeat' (first | exact trivial | exact qBu _ | exact qBc rfl | apply And.intro))
end Go.Proofs.YtlpnnnmdkglkcaaDoor

