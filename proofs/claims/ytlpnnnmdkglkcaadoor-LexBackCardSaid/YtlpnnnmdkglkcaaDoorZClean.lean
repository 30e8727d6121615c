/-
  chirographkeep.clean: the words of a text that may be, at most so many bytes. No condition but the size.
-/
import Derived.Test.YtlpnnnmdkglkcaaDoorZG
import Derived.Test.YtlpnnnmdkglkcaaDoorZTl
import Derived.Laws.Cover4
set_option linter.unusedSimpArgs false
set_option linter.unusedVariables false
namespace Go.Proofs.YtlpnnnmdkglkcaaDoor
open Go.RowKit

def qCv (s : ByteArray) (most : Nat) : Nat → Nat → ByteArray → ByteArray
  | 0, _, out => out
  | f + 1, pos, out => if pos < s.size then (if most < out.size + 4 then out else qCv s most f (pos + (Utf8.decode s pos).2) (out ++ Utf8.encode ((Utf8.decode s pos).1 : Nat))) else out
def qEi (s : ByteArray) (most : Nat) : ByteArray := qCv s most (s.size + 1) 0 ByteArray.empty
theorem decode_w (s : ByteArray) (pos : Nat) : 1 ≤ (Utf8.decode s pos).2 := by
  simp only [Utf8.decode]
  repeat' split
  all_goals simp
theorem qEQ (s : ByteArray) (most : Nat) : ∀ (f pos : Nat) (out : ByteArray), out.size ≤ most → (qCv s most f pos out).size ≤ most
  | 0, _, out, h => h
  | f + 1, pos, out, h => by
    unfold qCv
    split
    · split
      · exact h
      · refine qEQ s most f _ _ ?_
        have := encode_size_le ((Utf8.decode s pos).1 : Nat)
        rw [ByteArray.size_append]
        omega
    · exact h
theorem qES (s : ByteArray) (most : Nat) : (qEi s most).size ≤ most := qEQ s most _ _ _ (Nat.zero_le _)
theorem qEK (s : ByteArray) (most : Nat) : ∀ (f g pos : Nat) (out : ByteArray), s.size ≤ pos + f → s.size ≤ pos + g → qCv s most f pos out = qCv s most g pos out
  | 0, 0, _, _, _, _ => rfl
  | 0, g + 1, pos, out, h, _ => by unfold qCv; rw [if_neg (by omega)]
  | f + 1, 0, pos, out, _, h => by unfold qCv; rw [if_neg (by omega)]
  | f + 1, g + 1, pos, out, h1, h2 => by
    have := decode_w s pos
    unfold qCv
    split
    · split
      · rfl
      · exact qEK s most f g _ _ (by omega) (by omega)
    · rfl
set_option maxHeartbeats 1000000 in
theorem clean_pc (s : ByteArray) (most : Nat) (hm : most ≤ 1000000) : PC Tryd.prog 21 [strD s, iD most] (strD (qEi s most)) := by
  refine qAM Tryd.func21 rfl (by kernel_rfl) mixed (by kernel_rfl) (qle (by kernel_rfl)) Tryd.results21 ?_
  repeat (first | (with_reducible first | apply qAl | apply qAm | apply qAn | apply qAk | apply qAs) | ((with_reducible apply rp); first | ((with_reducible apply qAc); (conv => lhs; whnf)) | ((with_reducible apply qAa); (conv => lhs; whnf))) | ((with_reducible apply rp1); (exact qC2 (tyOk rfl) rfl rfl rfl)))
  refine qB5 (fun m st => ∃ pos out, m = s.size + 1 - pos ∧ out.size ≤ most ∧ qCv s most (s.size + 1 - pos) pos out = qEi s most ∧ st = ⟨[(0, .d (strD s)), (1, .d (iD most)), (5, .d (strD out)), (9, .px 9 0)], [(9, .itr s pos)]⟩) _ _ ?_ ⟨0, ByteArray.empty, rfl, Nat.zero_le _, rfl, rfl⟩ ?_
  · refine qAT [] (by repeat' (first | exact qA0 | (refine qAH rfl (by exact SubA.refl _) ?_))) (kpX rfl) rfl (insS rfl) (insX rfl)
  · rintro m st ⟨pos, out, rfl, h1, h2, rfl⟩
    by_cases hp : pos < s.size
    · obtain ⟨f, hf⟩ : ∃ f, s.size + 1 - pos = f + 1 := ⟨s.size - pos, by omega⟩
      have hw := decode_w s pos
      have he := encode_size_le ((Utf8.decode s pos).1 : Nat)
      rw [hf, qCv, if_pos hp] at h2
      have hfc : ∀ out2, qCv s most f (pos + (Utf8.decode s pos).2) out2 = qCv s most (s.size + 1 - (pos + (Utf8.decode s pos).2)) (pos + (Utf8.decode s pos).2) out2 := fun out2 => qEK s most _ _ _ _ (by omega) (by omega)
      rw [hfc] at h2
      have hd := fun (P : Program) (dst : Option Nat) (ty : TypeId) (x : Operand) (e : Operand → A) (β : Bx) id (hx : e x = .px id 0) (hl : look id β = some (.itr s pos)) => qE5 (P := P) (dst := dst) (ty := ty) hx hl hp
      generalize (Utf8.decode s pos).1 = c at *
      generalize (Utf8.decode s pos).2 = wd at *
      repeat (first | (with_reducible first | apply qAl | apply qAm | apply qAn | apply qAk) | ((with_reducible apply rp); ((with_reducible apply qAv); eq_refl; eq_refl)) | ((with_reducible apply rp1); (exact hd _ _ _ _ _ _ _ rfl rfl)))
      refine qA7 rfl (fun _ => ?_) (fun h => (by cases h))
      repeat (first | (with_reducible first | apply qAl | apply qAm | apply qAn | apply qAk | apply qAs | apply qAC) | ((with_reducible apply rp); first | (exact does_add_to (z := ((out.size + 4 : Nat) : Int)) rfl rfl (by omega) (by omega) (by omega)) | ((with_reducible apply qAc); (conv => lhs; whnf)) | ((with_reducible apply qAa); (conv => lhs; whnf)) | ((with_reducible apply qBE); eq_refl; eq_refl) | ((with_reducible apply qAv); eq_refl; eq_refl) | ((with_reducible apply qAg); exact tyOk rfl; eq_refl; eq_refl)))
      refine qA7 rfl (fun hc => ?_) (fun hc => ?_)
      · have hlt : most < out.size + 4 := by simp at hc; omega
        rw [if_pos hlt] at h2
        repeat (first | (with_reducible first | apply qAl | apply qAm | apply qAn | apply qAk | apply qBJ | apply qBL | apply qBK | apply qAF | apply qAX) | ((with_reducible apply qDv); eq_refl) | ((with_reducible apply rp); first | ((with_reducible apply qAc); (conv => lhs; whnf)) | ((with_reducible apply qAa); (conv => lhs; whnf))))
        (with_reducible apply qAY); (focus (repeat' (first | (with_reducible apply qAE) | (with_reducible apply qAx) | ((with_reducible apply qAI); eq_refl)))); eq_refl; refine SubD.of_eq ?_
        rw [h2]; rfl
      · have hlt : ¬ most < out.size + 4 := by simp at hc; omega
        rw [if_neg hlt] at h2
        repeat (first | (with_reducible first | apply qAm | apply qAn | apply qAk | apply qA2 | apply qAC) | ((with_reducible apply rp); first | (exact does_conv_rune (tyOk rfl) (tyOk rfl) rfl rfl) | (exact does_cat rfl rfl (by omega)) | ((with_reducible apply qAc); (conv => lhs; whnf)) | ((with_reducible apply qAa); (conv => lhs; whnf))))
        refine ⟨_, _, ?_, ?_, pos + wd, out ++ Utf8.encode (c : Nat), rfl, by rw [ByteArray.size_append]; omega, h2, rfl⟩
        · omega
        · refine qAT [] (by repeat' (first | exact qA0 | (refine qAH rfl (by exact SubA.refl _) ?_))) (kpX rfl) rfl (insS rfl) (insX rfl)
    · have h3 : out = qEi s most := by
        rw [← h2]
        cases s.size + 1 - pos with
        | zero => rfl
        | succ f => unfold qCv; rw [if_neg hp]
      repeat (first | (with_reducible first | apply qAl | apply qAm | apply qAn | apply qAk) | ((with_reducible apply rp); first | (exact qCd rfl rfl (by omega)) | ((with_reducible apply qAv); eq_refl; eq_refl)))
      refine qA7 rfl (fun h => (by cases h)) (fun _ => ?_)
      repeat (first | (with_reducible first | apply qAl | apply qAm | apply qAn | apply qAk | apply qBJ | apply qBL | apply qBK | apply qAF | apply qAX) | ((with_reducible apply rp); first | ((with_reducible apply qAc); (conv => lhs; whnf)) | ((with_reducible apply qAa); (conv => lhs; whnf))))
      (with_reducible apply qAY); (focus (repeat' (first | (with_reducible apply qAE) | (with_reducible apply qAx) | ((with_reducible apply qAI); eq_refl)))); eq_refl; refine SubD.of_eq ?_
      rw [h3]; rfl
end Go.Proofs.YtlpnnnmdkglkcaaDoor

