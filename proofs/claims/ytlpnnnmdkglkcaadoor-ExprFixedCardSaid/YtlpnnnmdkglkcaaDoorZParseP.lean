/-
  expr.Parse of any tokens that may be; ExprFixed. No condition.
-/
import Derived.Test.YtlpnnnmdkglkcaaDoorZAheadP
import Derived.Test.YtlpnnnmdkglkcaaDoorZParseE
import Derived.Test.YtlpnnnmdkglkcaaDoorZSizeNo
import Derived.Test.YtlpnnnmdkglkcaaDoorZRdMin
set_option linter.unusedSimpArgs false
set_option linter.unusedVariables false
namespace Go.Proofs.YtlpnnnmdkglkcaaDoor
open Go.RowKit

set_option maxHeartbeats 2000000 in
theorem parse_bad (T : List Tk) (hT : T.length ≤ 100) (hok : ∀ t ∈ T, TkOk t) (p er : Nat) (her : er = 3 ∨ er = 4) (h : ∃ f, rd T f 1 0 = .bad p er) : PC Tryd.prog 26 [qAo T] (.tu [.ag noE, iD p, iD er]) := by
  have a1 : PC Tryd.prog 24 [qAo T, iD 0] (.tu [.ag noE, iD 0, iD p, iD er]) := ahead_bad T (by omega) hok 0 p er (Nat.zero_le _) h
  rcases her with rfl | rfl
  · refine qAJ Tryd.func26 rfl (by kernel_rfl) mixed (by kernel_rfl) (qle (by kernel_rfl)) Tryd.results26 ?_
    repeat (first | ((first | (with_reducible apply rpGT) | (with_reducible apply drGT) | (with_reducible apply qAP) | (with_reducible apply qAQ)); eq_refl; (first | exact qAy rfl | exact qAx rfl | exact qAv rfl | exact qAw rfl); (first | eq_refl | assumption | decide); (focus repeat' (first | exact trivial | exact id | apply And.intro | (intro h; (first | exact h | (simp only [Bool.and_eq_true] at h; (first | exact h.1 | exact h.1.1 | exact h.1.1.1 | exact h.2)) | (rw [h]; rfl) | (rw [zh, h]; rfl) | simp_all)))); ((first | ((with_reducible apply qAa); eq_refl; eq_refl; exact (a1); eq_refl) | ((with_reducible first | apply qAe | apply qAd); (conv => lhs; whnf)) | ((with_reducible first | apply qA3 | apply qA8 | apply qAT | apply qAz | apply qBh | apply qAh | apply qAf) <;> first | ((with_reducible apply tyOk); eq_refl) | eq_refl)); (first | exact qAb _ | exact qAk _ _ | exact qAj _ _ _ | exact qAl _ _ _ _))) | (with_reducible first | apply qAt | apply qAs | apply qAr | apply qAn | apply qAM | apply qBm | apply qAX | apply qAH) | ((with_reducible apply rp); first | ((with_reducible apply qAa); eq_refl; eq_refl; exact (a1); eq_refl) | ((with_reducible apply qAe); (conv => lhs; whnf)) | ((with_reducible apply qAd); (conv => lhs; whnf)) | ((with_reducible apply qA3); eq_refl; eq_refl) | ((with_reducible apply qA8); eq_refl; eq_refl) | ((with_reducible apply qAT); eq_refl; eq_refl) | ((with_reducible apply qAz); exact tyOk rfl; eq_refl; eq_refl) | ((with_reducible apply qBh); exact tyOk rfl; eq_refl; eq_refl)) | ((with_reducible apply rp1); ((with_reducible apply qAh); exact tyOk rfl; eq_refl)) | ((with_reducible apply rpN); ((with_reducible apply qAf); exact tyOk rfl; (iterate 5 eq_refl))) | ((with_reducible apply qAN); eq_refl; (focus (intro hd; (first | (cases hd; done) | (exfalso; simp at hd; omega)))); (intro hd; clear hd)) | ((with_reducible apply qAN); eq_refl; rotate_left; (focus (intro hd; (first | (cases hd; done) | (exfalso; simp at hd; omega)))); (intro hd; clear hd)))
    (with_reducible apply qAW); (focus (repeat' (first | (with_reducible apply qAL) | (with_reducible apply qAB) | ((with_reducible apply qA1); eq_refl) | ((with_reducible apply qBc); eq_refl; eq_refl; exact tyOk rfl; eq_refl; eq_refl)))); eq_refl; refine SubD.of_eq ?_
    rfl
  · refine qAJ Tryd.func26 rfl (by kernel_rfl) mixed (by kernel_rfl) (qle (by kernel_rfl)) Tryd.results26 ?_
    repeat (first | ((first | (with_reducible apply rpGT) | (with_reducible apply drGT) | (with_reducible apply qAP) | (with_reducible apply qAQ)); eq_refl; (first | exact qAy rfl | exact qAx rfl | exact qAv rfl | exact qAw rfl); (first | eq_refl | assumption | decide); (focus repeat' (first | exact trivial | exact id | apply And.intro | (intro h; (first | exact h | (simp only [Bool.and_eq_true] at h; (first | exact h.1 | exact h.1.1 | exact h.1.1.1 | exact h.2)) | (rw [h]; rfl) | (rw [zh, h]; rfl) | simp_all)))); ((first | ((with_reducible apply qAa); eq_refl; eq_refl; exact (a1); eq_refl) | ((with_reducible first | apply qAe | apply qAd); (conv => lhs; whnf)) | ((with_reducible first | apply qA3 | apply qA8 | apply qAT | apply qAz | apply qBh | apply qAh | apply qAf) <;> first | ((with_reducible apply tyOk); eq_refl) | eq_refl)); (first | exact qAb _ | exact qAk _ _ | exact qAj _ _ _ | exact qAl _ _ _ _))) | (with_reducible first | apply qAt | apply qAs | apply qAr | apply qAn | apply qAM | apply qBm | apply qAX | apply qAH) | ((with_reducible apply rp); first | ((with_reducible apply qAa); eq_refl; eq_refl; exact (a1); eq_refl) | ((with_reducible apply qAe); (conv => lhs; whnf)) | ((with_reducible apply qAd); (conv => lhs; whnf)) | ((with_reducible apply qA3); eq_refl; eq_refl) | ((with_reducible apply qA8); eq_refl; eq_refl) | ((with_reducible apply qAT); eq_refl; eq_refl) | ((with_reducible apply qAz); exact tyOk rfl; eq_refl; eq_refl) | ((with_reducible apply qBh); exact tyOk rfl; eq_refl; eq_refl)) | ((with_reducible apply rp1); ((with_reducible apply qAh); exact tyOk rfl; eq_refl)) | ((with_reducible apply rpN); ((with_reducible apply qAf); exact tyOk rfl; (iterate 5 eq_refl))) | ((with_reducible apply qAN); eq_refl; (focus (intro hd; (first | (cases hd; done) | (exfalso; simp at hd; omega)))); (intro hd; clear hd)) | ((with_reducible apply qAN); eq_refl; rotate_left; (focus (intro hd; (first | (cases hd; done) | (exfalso; simp at hd; omega)))); (intro hd; clear hd)))
    (with_reducible apply qAW); (focus (repeat' (first | (with_reducible apply qAL) | (with_reducible apply qAB) | ((with_reducible apply qA1); eq_refl) | ((with_reducible apply qBc); eq_refl; eq_refl; exact tyOk rfl; eq_refl; eq_refl)))); eq_refl; refine SubD.of_eq ?_
    rfl
set_option maxHeartbeats 2000000 in
theorem parse_rest (T : List Tk) (hT : T.length ≤ 100) (hok : ∀ t ∈ T, TkOk t) (x : Ex) (j : Nat) (hj : j ≠ T.length) (h : ∃ f, rd T f 1 0 = .ok x j) : PC Tryd.prog 26 [qAo T] (.tu [.ag noE, iD j, iD 3]) := by
  have a1 : PC Tryd.prog 24 [qAo T, iD 0] (.tu [exD x, iD j, iD 0, iD 0]) := ahead_pc T (by omega) hok 0 j (Nat.zero_le _) x h
  refine qAJ Tryd.func26 rfl (by kernel_rfl) mixed (by kernel_rfl) (qle (by kernel_rfl)) Tryd.results26 ?_
  repeat (first | ((first | (with_reducible apply rpGT) | (with_reducible apply drGT) | (with_reducible apply qAP) | (with_reducible apply qAQ)); eq_refl; (first | exact qAy rfl | exact qAx rfl | exact qAv rfl | exact qAw rfl); (first | eq_refl | assumption | decide); (focus repeat' (first | exact trivial | exact id | apply And.intro | (intro h; (first | exact h | (simp only [Bool.and_eq_true] at h; (first | exact h.1 | exact h.1.1 | exact h.1.1.1 | exact h.2)) | (rw [h]; rfl) | (rw [zh, h]; rfl) | simp_all)))); ((first | ((with_reducible apply qAE); (iterate 3 eq_refl); exact (a1)) | ((with_reducible first | apply qAe | apply qAd); (conv => lhs; whnf)) | ((with_reducible first | apply qA3 | apply qA8 | apply qAT | apply qAz | apply qBh | apply qAh | apply qAf) <;> first | ((with_reducible apply tyOk); eq_refl) | eq_refl)); (first | exact qAb _ | exact qAk _ _ | exact qAj _ _ _ | exact qAl _ _ _ _))) | (with_reducible first | apply qAt | apply qAs | apply qAr | apply qAn | apply qAM | apply qBm | apply qAX | apply qAH) | ((with_reducible apply rp); first | ((with_reducible apply qAE); (iterate 3 eq_refl); exact (a1)) | ((with_reducible apply qAe); (conv => lhs; whnf)) | ((with_reducible apply qAd); (conv => lhs; whnf)) | ((with_reducible apply qA3); eq_refl; eq_refl) | ((with_reducible apply qA8); eq_refl; eq_refl) | ((with_reducible apply qAT); eq_refl; eq_refl) | ((with_reducible apply qAz); exact tyOk rfl; eq_refl; eq_refl) | ((with_reducible apply qBh); exact tyOk rfl; eq_refl; eq_refl)) | ((with_reducible apply rp1); ((with_reducible apply qAh); exact tyOk rfl; eq_refl)) | ((with_reducible apply rpN); ((with_reducible apply qAf); exact tyOk rfl; (iterate 5 eq_refl))) | ((with_reducible apply qAN); eq_refl; (focus (intro hd; (first | (cases hd; done) | (exfalso; simp at hd; omega)))); (intro hd; clear hd)) | ((with_reducible apply qAN); eq_refl; rotate_left; (focus (intro hd; (first | (cases hd; done) | (exfalso; simp at hd; omega)))); (intro hd; clear hd)))
  (with_reducible apply qAW); (focus (repeat' (first | (with_reducible apply qAL) | (with_reducible apply qAB) | ((with_reducible apply qA1); eq_refl) | ((with_reducible apply qBc); eq_refl; eq_refl; exact tyOk rfl; eq_refl; eq_refl)))); eq_refl; refine SubD.of_eq ?_
  rfl
set_option maxHeartbeats 2000000 in
theorem parse_large (T : List Tk) (hT : T.length ≤ 100) (hok : ∀ t ∈ T, TkOk t) (x : Ex) (hx : ¬ (x.deep ≤ 7 ∧ x.num ≤ 40)) (h : ∃ f, rd T f 1 0 = .ok x T.length) : PC Tryd.prog 26 [qAo T] (.tu [.ag noE, iD 0, iD 1]) := by
  have a1 : PC Tryd.prog 24 [qAo T, iD 0] (.tu [exD x, iD T.length, iD 0, iD 0]) := ahead_pc T (by omega) hok 0 T.length (Nat.zero_le _) x h
  have c1 := check_no x hx
  rw [qEG] at c1
  refine qAJ Tryd.func26 rfl (by kernel_rfl) mixed (by kernel_rfl) (qle (by kernel_rfl)) Tryd.results26 ?_
  repeat (first | ((first | (with_reducible apply rpGT) | (with_reducible apply drGT) | (with_reducible apply qAP) | (with_reducible apply qAQ)); eq_refl; (first | exact qAy rfl | exact qAx rfl | exact qAv rfl | exact qAw rfl); (first | eq_refl | assumption | decide); (focus repeat' (first | exact trivial | exact id | apply And.intro | (intro h; (first | exact h | (simp only [Bool.and_eq_true] at h; (first | exact h.1 | exact h.1.1 | exact h.1.1.1 | exact h.2)) | (rw [h]; rfl) | (rw [zh, h]; rfl) | simp_all)))); ((first | ((with_reducible apply qAE); (iterate 3 eq_refl); exact (a1)) | ((with_reducible apply qAa); eq_refl; eq_refl; exact (c1); eq_refl) | ((with_reducible first | apply qAe | apply qAd); (conv => lhs; whnf)) | ((with_reducible first | apply qAm | apply qA3 | apply qA8 | apply qAT | apply qAz | apply qBh | apply qAh | apply qAf) <;> first | ((with_reducible apply tyOk); eq_refl) | eq_refl | exact qle rfl)); (first | exact qAb _ | exact qAk _ _ | exact qAj _ _ _ | exact qAl _ _ _ _))) | (with_reducible first | apply qAt | apply qAs | apply qAr | apply qAn | apply qAM | apply qBm | apply qAX | apply qAH) | ((with_reducible apply rp); first | ((with_reducible apply qAE); (iterate 3 eq_refl); exact (a1)) | ((with_reducible apply qAa); eq_refl; eq_refl; exact (c1); eq_refl) | ((with_reducible apply qAe); (conv => lhs; whnf)) | ((with_reducible apply qAd); (conv => lhs; whnf)) | ((with_reducible apply qAm); exact tyOk rfl; (iterate 3 eq_refl); exact qle rfl; eq_refl) | ((with_reducible apply qA3); eq_refl; eq_refl) | ((with_reducible apply qA8); eq_refl; eq_refl) | ((with_reducible apply qAT); eq_refl; eq_refl) | ((with_reducible apply qAz); exact tyOk rfl; eq_refl; eq_refl) | ((with_reducible apply qBh); exact tyOk rfl; eq_refl; eq_refl)) | ((with_reducible apply rp1); ((with_reducible apply qAh); exact tyOk rfl; eq_refl)) | ((with_reducible apply rpN); ((with_reducible apply qAf); exact tyOk rfl; (iterate 5 eq_refl))) | ((with_reducible apply qAN); eq_refl; (focus (intro hd; (first | (cases hd; done) | (exfalso; simp at hd; done) | (exfalso; simp at hd; omega)))); (intro hd; clear hd)) | ((with_reducible apply qAN); eq_refl; rotate_left; (focus (intro hd; (first | (cases hd; done) | (exfalso; simp at hd; done) | (exfalso; simp at hd; omega)))); (intro hd; clear hd)))
  (with_reducible apply qAW); (focus (repeat' (first | (with_reducible apply qAL) | (with_reducible apply qAB) | ((with_reducible apply qA1); eq_refl) | ((with_reducible apply qBc); eq_refl; eq_refl; exact tyOk rfl; eq_refl; eq_refl)))); eq_refl; refine SubD.of_eq ?_
  rfl
theorem parse_any (T : List Tk) (hT : T.length ≤ 100) (hok : ∀ t ∈ T, TkOk t) :
    (∃ x : Ex, x.ok ∧ x.deep ≤ 7 ∧ x.num ≤ 40 ∧ (shw x 1).length ≤ T.length ∧ PC Tryd.prog 26 [qAo T] (.tu [exD x, iD 0, iD 0])) ∨
    ∃ p er : Nat, p ≤ T.length ∧ (er = 1 ∨ er = 3 ∨ er = 4) ∧ PC Tryd.prog 26 [qAo T] (.tu [.ag noE, iD p, iD er]) := by
  obtain ⟨g1, g2⟩ := rd_good T hok (10 * (T.length + 1 - 0) + (10 - 1)) 1 0 (Nat.le_refl _) (by decide) (Nat.zero_le _)
  have g2 := g2 (Nat.le_refl _)
  generalize 10 * (T.length + 1 - 0) + (10 - 1) = F at *
  cases hr : rd T F 1 0 with
  | out => exact absurd hr g2
  | bad p er =>
    rw [hr] at g1
    obtain ⟨hp, he⟩ := g1
    exact .inr ⟨p, er, hp, .inr he, parse_bad T hT hok p er he ⟨F, hr⟩⟩
  | ok x j =>
    rw [hr] at g1
    obtain ⟨h1, h2, hx⟩ := g1
    by_cases hj : j = T.length
    · subst hj
      by_cases hf : x.deep ≤ 7 ∧ x.num ≤ 40
      · exact .inl ⟨x, hx, hf.1, hf.2, by omega, parse_pc T hT hok x ⟨F, hr⟩ hx hf.1 hf.2⟩
      · exact .inr ⟨0, 1, Nat.zero_le _, .inl rfl, parse_large T hT hok x hf ⟨F, hr⟩⟩
    · exact .inr ⟨j, 3, h2, .inr (.inl rfl), parse_rest T hT hok x j hj ⟨F, hr⟩⟩
theorem op_pos {x : Ex} (h : x.ok) : 0 < x.op := by
  cases x with
  | lit v => show 0 < 1; decide
  | col n => show 0 < 2; decide
  | un op a => rcases h.1 with rfl | rfl | rfl | rfl <;> exact Nat.succ_pos _
  | bi op a b =>
    have h1 : bi2 op := h.1
    show 0 < op
    unfold bi2 at h1
    omega
end Go.Proofs.YtlpnnnmdkglkcaaDoor

