/-
  A text that is put together out of runes is valid. Plain laws, no program in sight.
-/
import Derived.Test.YtlpnnnmdkglkcaaDoorZClean
import Derived.Lib.MapLaws
import Derived.Lib.ValidLaws
namespace Go.Proofs.YtlpnnnmdkglkcaaDoor
set_option linter.unusedSimpArgs false
set_option linter.unusedVariables false
open Go.Lib

theorem decN_app {n n' b0 b1 b2 b3 c1 c2 c3 : Nat} (h : n ≤ n') (h1 : 1 < n → c1 = b1) (h2 : 2 < n → c2 = b2) (h3 : 3 < n → c3 = b3) (hv : ¬ ((decodeN n b0 b1 b2 b3).1 = 65533 ∧ (decodeN n b0 b1 b2 b3).2 = 1)) : decodeN n' b0 c1 c2 c3 = decodeN n b0 b1 b2 b3 := by
  by_cases e0 : b0 < 128
  · simp only [decodeN, if_pos e0]
  by_cases e2 : b0 / 32 = 6
  · by_cases c : 1 < n ∧ b1 / 64 = 2
    · have q := h1 c.1
      subst q
      have c' : 1 < n' ∧ c1 / 64 = 2 := ⟨by omega, c.2⟩
      simp only [decodeN, if_neg e0, if_pos (And.intro e2 c), if_pos (And.intro e2 c')]
    · exfalso
      apply hv
      have n3 : ¬ b0 / 16 = 14 := by omega
      have n4 : ¬ b0 / 8 = 30 := by omega
      simp only [decodeN, if_neg e0, if_neg (show ¬ (b0 / 32 = 6 ∧ 1 < n ∧ b1 / 64 = 2) from fun x => c x.2), if_neg (show ¬ (b0 / 16 = 14 ∧ (1 < n ∧ b1 / 64 = 2) ∧ 2 < n ∧ b2 / 64 = 2) from fun x => n3 x.1), if_neg (show ¬ (b0 / 8 = 30 ∧ (1 < n ∧ b1 / 64 = 2) ∧ (2 < n ∧ b2 / 64 = 2) ∧ 3 < n ∧ b3 / 64 = 2) from fun x => n4 x.1), and_self]
  have m2 : ∀ k c, ¬ (b0 / 32 = 6 ∧ 1 < k ∧ c / 64 = 2) := fun k c x => e2 x.1
  by_cases e3 : b0 / 16 = 14
  · have n4 : ¬ b0 / 8 = 30 := by omega
    by_cases c : (1 < n ∧ b1 / 64 = 2) ∧ (2 < n ∧ b2 / 64 = 2)
    · have q := h1 c.1.1
      have q2 := h2 c.2.1
      subst q q2
      have c' : (1 < n' ∧ c1 / 64 = 2) ∧ (2 < n' ∧ c2 / 64 = 2) := ⟨⟨by omega, c.1.2⟩, by omega, c.2.2⟩
      simp only [decodeN, if_neg e0, if_neg (m2 _ _), if_pos (And.intro e3 c), if_pos (And.intro e3 c')]
    · exfalso
      apply hv
      simp only [decodeN, if_neg e0, if_neg (m2 _ _), if_neg (show ¬ (b0 / 16 = 14 ∧ (1 < n ∧ b1 / 64 = 2) ∧ 2 < n ∧ b2 / 64 = 2) from fun x => c x.2), if_neg (show ¬ (b0 / 8 = 30 ∧ (1 < n ∧ b1 / 64 = 2) ∧ (2 < n ∧ b2 / 64 = 2) ∧ 3 < n ∧ b3 / 64 = 2) from fun x => n4 x.1), and_self]
  have m3 : ∀ k c d, ¬ (b0 / 16 = 14 ∧ (1 < k ∧ c / 64 = 2) ∧ 2 < k ∧ d / 64 = 2) := fun k c d x => e3 x.1
  by_cases e4 : b0 / 8 = 30
  · by_cases c : (1 < n ∧ b1 / 64 = 2) ∧ (2 < n ∧ b2 / 64 = 2) ∧ (3 < n ∧ b3 / 64 = 2)
    · have q := h1 c.1.1
      have q2 := h2 c.2.1.1
      have q3 := h3 c.2.2.1
      subst q q2 q3
      have c' : (1 < n' ∧ c1 / 64 = 2) ∧ (2 < n' ∧ c2 / 64 = 2) ∧ (3 < n' ∧ c3 / 64 = 2) := ⟨⟨by omega, c.1.2⟩, ⟨by omega, c.2.1.2⟩, by omega, c.2.2.2⟩
      simp only [decodeN, if_neg e0, if_neg (m2 _ _), if_neg (m3 _ _ _), if_pos (And.intro e4 c), if_pos (And.intro e4 c')]
    · exfalso
      apply hv
      simp only [decodeN, if_neg e0, if_neg (m2 _ _), if_neg (m3 _ _ _), if_neg (show ¬ (b0 / 8 = 30 ∧ (1 < n ∧ b1 / 64 = 2) ∧ (2 < n ∧ b2 / 64 = 2) ∧ 3 < n ∧ b3 / 64 = 2) from fun x => c x.2), and_self]
  · exfalso
    apply hv
    simp only [decodeN, if_neg e0, if_neg (m2 _ _), if_neg (m3 _ _ _), if_neg (show ¬ (b0 / 8 = 30 ∧ (1 < n ∧ b1 / 64 = 2) ∧ (2 < n ∧ b2 / 64 = 2) ∧ 3 < n ∧ b3 / 64 = 2) from fun x => e4 x.1), and_self]
theorem getD_app {l m : List UInt8} {k : Nat} (h : k < l.length) : (l ++ m).getD k 0 = l.getD k 0 := by
  rw [List.getD_eq_getElem?_getD, List.getD_eq_getElem?_getD, List.getElem?_append_left h]
theorem dec_app {l m : List UInt8} (hne : l ≠ []) (hv : ¬ ((decodeL l).1 = 65533 ∧ (decodeL l).2 = 1)) : decodeL (l ++ m) = decodeL l := by
  have hl : 0 < l.length := List.length_pos_iff.2 hne
  rw [decodeL_N] at hv ⊢
  rw [decodeL_N l, getD_app hl]
  exact decN_app (by rw [List.length_append]; omega) (fun h => by rw [getD_app h]) (fun h => by rw [getD_app h]) (fun h => by rw [getD_app h]) hv
theorem valid_app : ∀ (n : Nat) (a b : List UInt8), a.length ≤ n → validD a = true → validD b = true → validD (a ++ b) = true
  | 0, a, b, h, _, hb => by
    have : a = [] := List.length_eq_zero_iff.1 (by omega)
    subst this; exact hb
  | n + 1, a, b, h, ha, hb => by
    by_cases hne : a = []
    · subst hne; exact hb
    · rw [validD_step a hne] at ha
      split at ha
      · cases ha
      · rename_i hv
        have hw := decodeL_width a
        have hle := decodeL_le a hne
        rw [validD_step (a ++ b) (by simp [hne]), dec_app hne hv, if_neg hv, List.drop_append_of_le_length hle]
        exact valid_app n _ b (by rw [List.length_drop]; omega) ha hb
theorem valid_one {l : List UInt8} {c : Nat} (hne : l ≠ []) (h : decodeL l = (c, l.length)) (h2 : ¬ (c = 65533 ∧ l.length = 1)) : validD l = true := by
  rw [validD_step l hne, h, if_neg h2]
  show validD (l.drop l.length) = true
  rw [List.drop_length]; rfl
theorem valid_enc (r : Int) : validD (Utf8.encode r).data.toList = true := by
  unfold Utf8.encode
  dsimp only
  obtain ⟨c, hc⟩ : ∃ c, (if Utf8.valid r = true then r.toNat else Utf8.runeError) = c := ⟨_, rfl⟩
  rw [hc]
  have hcv : c < 55296 ∨ (57344 ≤ c ∧ c ≤ 1114111) := by
    rw [← hc]
    split
    · rename_i h
      simp only [Utf8.valid, Bool.or_eq_true, Bool.and_eq_true, decide_eq_true_eq] at h
      omega
    · right; decide
  have m : ∀ n, n < 256 → (UInt8.ofNat n).toNat = n := fun n h => by rw [UInt8.toNat_ofNat']; omega
  by_cases h1 : c < 128
  · rw [if_pos h1]
    show validD [UInt8.ofNat c] = true
    rw [validD_cons _ _ (by rw [m c (by omega)]; exact h1)]; rfl
  rw [if_neg h1]
  by_cases h2 : c < 2048
  · rw [if_pos h2]
    show validD [UInt8.ofNat (192 + c / 64), UInt8.ofNat (128 + c % 64)] = true
    refine valid_one (c := c) (by simp) ?_ (by simp)
    rw [decodeL_N]
    show decodeN 2 (UInt8.ofNat (192 + c / 64)).toNat (UInt8.ofNat (128 + c % 64)).toNat 0 0 = (c, 2)
    rw [m _ (by omega), m _ (by omega)]
    unfold decodeN
    rw [if_neg (by omega), if_pos ⟨by omega, by omega, by omega⟩, if_pos (by omega)]
    congr 1; omega
  rw [if_neg h2]
  by_cases h3 : c < 65536
  · rw [if_pos h3]
    show validD [UInt8.ofNat (224 + c / 4096), UInt8.ofNat (128 + c / 64 % 64), UInt8.ofNat (128 + c % 64)] = true
    refine valid_one (c := c) (by simp) ?_ (by simp)
    rw [decodeL_N]
    show decodeN 3 (UInt8.ofNat (224 + c / 4096)).toNat (UInt8.ofNat (128 + c / 64 % 64)).toNat (UInt8.ofNat (128 + c % 64)).toNat 0 = (c, 3)
    rw [m _ (by omega), m _ (by omega), m _ (by omega)]
    unfold decodeN
    rw [if_neg (by omega), if_neg (by omega), if_pos ⟨by omega, ⟨by omega, by omega⟩, by omega, by omega⟩, if_pos (by omega)]
    congr 1; omega
  rw [if_neg h3]
  show validD [UInt8.ofNat (240 + c / 262144), UInt8.ofNat (128 + c / 4096 % 64), UInt8.ofNat (128 + c / 64 % 64), UInt8.ofNat (128 + c % 64)] = true
  refine valid_one (c := c) (by simp) ?_ (by simp)
  rw [decodeL_N]
  show decodeN 4 (UInt8.ofNat (240 + c / 262144)).toNat (UInt8.ofNat (128 + c / 4096 % 64)).toNat (UInt8.ofNat (128 + c / 64 % 64)).toNat (UInt8.ofNat (128 + c % 64)).toNat = (c, 4)
  rw [m _ (by omega), m _ (by omega), m _ (by omega), m _ (by omega)]
  unfold decodeN
  rw [if_neg (by omega), if_neg (by omega), if_neg (by omega), if_pos ⟨by omega, ⟨by omega, by omega⟩, ⟨by omega, by omega⟩, by omega, by omega⟩, if_pos (by omega)]
  congr 1; omega
theorem clean_valid (s : ByteArray) (most : Nat) : ∀ (f pos : Nat) (out : ByteArray), validD out.data.toList = true → validD (cleanF s most f pos out).data.toList = true
  | 0, _, out, h => h
  | f + 1, pos, out, h => by
    unfold cleanF
    split
    · split
      · exact h
      · refine clean_valid s most f _ _ ?_
        rw [ByteArray.data_append, Array.toList_append]
        exact valid_app _ _ _ (Nat.le_refl _) h (valid_enc _)
    · exact h
theorem cleanT_valid (s : ByteArray) (most : Nat) : validD (cleanT s most).data.toList = true := clean_valid s most _ _ _ rfl
end Go.Proofs.YtlpnnnmdkglkcaaDoor

