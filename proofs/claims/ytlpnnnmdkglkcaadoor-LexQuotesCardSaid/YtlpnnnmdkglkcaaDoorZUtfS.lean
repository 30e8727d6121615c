/-
  A text that may be, parted where no sign goes on; what goes on behind one. Plain. No condition.
-/
import Derived.Test.YtlpnnnmdkglkcaaDoorZUtf
namespace Go.Proofs.YtlpnnnmdkglkcaaDoor
set_option linter.unusedSimpArgs false
set_option linter.unusedVariables false
open Go.RowKit Go.Lib

/-- A byte that goes on. -/
def contB (c : UInt8) : Bool := c.toNat / 64 == 2
theorem decN_cont {n b0 b1 b2 b3 : Nat} (hv : ¬ ((decodeN n b0 b1 b2 b3).1 = 65533 ∧ (decodeN n b0 b1 b2 b3).2 = 1)) :
    (1 < (decodeN n b0 b1 b2 b3).2 → b1 / 64 = 2) ∧ (2 < (decodeN n b0 b1 b2 b3).2 → b2 / 64 = 2) ∧ (3 < (decodeN n b0 b1 b2 b3).2 → b3 / 64 = 2) ∧ (decodeN n b0 b1 b2 b3).2 ≤ 4 := by
  unfold decodeN at hv ⊢
  repeat' split
  all_goals simp_all
theorem dec_cont {l : List UInt8} (hne : l ≠ []) (hv : ¬ ((decodeL l).1 = 65533 ∧ (decodeL l).2 = 1)) {k : Nat} {c : UInt8} (h0 : 0 < k) (hk : k < (decodeL l).2) (hc : l[k]? = some c) : contB c = true := by
  rw [decodeL_N] at hv hk
  obtain ⟨h1, h2, h3, h4⟩ := decN_cont hv
  have hg : (l.getD k 0) = c := by rw [List.getD_eq_getElem?_getD, hc]; rfl
  unfold contB
  rw [beq_iff_eq, ← hg]
  rcases (by omega : k = 1 ∨ k = 2 ∨ k = 3) with rfl | rfl | rfl
  · exact h1 (by omega)
  · exact h2 (by omega)
  · exact h3 (by omega)
theorem dec_take {l : List UInt8} (hne : l ≠ []) (hv : ¬ ((decodeL l).1 = 65533 ∧ (decodeL l).2 = 1)) : decodeL (l.take (decodeL l).2) = decodeL l := by
  have hle := decodeL_le l hne
  have hln : (l.take (decodeL l).2).length = (decodeL l).2 := by rw [List.length_take, Nat.min_eq_left hle]
  have key : ∀ j, j < (decodeL l).2 → (l.take (decodeL l).2).getD j 0 = l.getD j 0 := fun j hj => by
    rw [List.getD_eq_getElem?_getD, List.getD_eq_getElem?_getD, List.getElem?_take, if_pos hj]
  rw [decodeL_N (l.take _), hln]
  rw [decodeL_N l] at hv
  have hd := decodeL_N l
  generalize l.take (decodeL l).2 = m at *
  have k0 := (l.getD 0 0).toNat_lt
  have k1 := (l.getD 1 0).toNat_lt
  have k2 := (l.getD 2 0).toNat_lt
  have k3 := (l.getD 3 0).toNat_lt
  rcases decodeN_shape l.length (l.getD 0 0).toNat (l.getD 1 0).toNat (l.getD 2 0).toNat (l.getD 3 0).toNat with ⟨c, e⟩ | ⟨c1, c2, c3, cv, e⟩ | ⟨c1, c2, c3, c4, cv, cs, e⟩ | ⟨c1, c2, c3, c4, c5, cv, cw, e⟩ | e
  · rw [e] at hd
    rw [hd] at key ⊢
    rw [key 0 (by show 0 < 1; decide)]
    unfold decodeN
    rw [if_pos c]
  · rw [e] at hd
    rw [hd] at key ⊢
    rw [key 0 (by decide : 0 < 2), key 1 (by decide : 1 < 2)]
    generalize (l.getD 0 0).toNat = b0 at *
    generalize (l.getD 1 0).toNat = b1 at *
    unfold decodeN
    dsimp only
    rw [if_neg (by omega), if_pos ⟨by omega, by omega, by omega⟩, if_pos (by omega)]
  · rw [e] at hd
    rw [hd] at key ⊢
    rw [key 0 (by decide : 0 < 3), key 1 (by decide : 1 < 3), key 2 (by decide : 2 < 3)]
    generalize (l.getD 0 0).toNat = b0 at *
    generalize (l.getD 1 0).toNat = b1 at *
    generalize (l.getD 2 0).toNat = b2 at *
    unfold decodeN
    dsimp only
    rw [if_neg (by omega), if_neg (by omega), if_pos ⟨by omega, ⟨by omega, by omega⟩, by omega, by omega⟩, if_pos ⟨by omega, by omega⟩]
  · rw [e] at hd
    rw [hd] at key ⊢
    rw [key 0 (by decide : 0 < 4), key 1 (by decide : 1 < 4), key 2 (by decide : 2 < 4), key 3 (by decide : 3 < 4)]
    generalize (l.getD 0 0).toNat = b0 at *
    generalize (l.getD 1 0).toNat = b1 at *
    generalize (l.getD 2 0).toNat = b2 at *
    generalize (l.getD 3 0).toNat = b3 at *
    unfold decodeN
    dsimp only
    rw [if_neg (by omega), if_neg (by omega), if_neg (by omega), if_pos ⟨by omega, ⟨by omega, by omega⟩, ⟨by omega, by omega⟩, by omega, by omega⟩, if_pos ⟨by omega, by omega⟩]
  · exact absurd (by rw [e]; exact ⟨rfl, rfl⟩) hv
theorem valid_take {l : List UInt8} (hne : l ≠ []) (hv : ¬ ((decodeL l).1 = 65533 ∧ (decodeL l).2 = 1)) : validD (l.take (decodeL l).2) = true := by
  have hle := decodeL_le l hne
  have hln : (l.take (decodeL l).2).length = (decodeL l).2 := by rw [List.length_take, Nat.min_eq_left hle]
  have hw := decodeL_width l
  have hd := dec_take hne hv
  refine valid_one (c := (decodeL l).1) (fun e => by rw [e] at hln; simp at hln; omega) ?_ (by rw [hln]; exact hv)
  rw [hd, hln]
theorem valid_part : ∀ (n : Nat) (l : List UInt8) (k : Nat), l.length ≤ n → validD l = true → (∀ c, l[k]? = some c → k = 0 ∨ contB c = false) → k ≤ l.length → validD (l.take k) = true ∧ validD (l.drop k) = true
  | 0, l, k, h, hl, _, _ => by
    have : l = [] := List.length_eq_zero_iff.1 (by omega)
    subst this
    simp [validD_nil]
  | n + 1, l, k, h, hl, hk, hkl => by
    by_cases hne : l = []
    · subst hne
      simp [validD_nil]
    · rcases Nat.eq_zero_or_pos k with rfl | hk0
      · simp only [List.take_zero, List.drop_zero]
        exact ⟨rfl, hl⟩
      · have hs := validD_step l hne
        rw [hl] at hs
        have hw := decodeL_width l
        have hle := decodeL_le l hne
        have hv : ¬ ((decodeL l).1 = 65533 ∧ (decodeL l).2 = 1) := fun e => by rw [if_pos e] at hs; cases hs
        rw [if_neg hv] at hs
        have ht := valid_take hne hv
        rcases Nat.lt_or_ge k (decodeL l).2 with hlt | hge
        · exfalso
          obtain ⟨c, hc⟩ : ∃ c, l[k]? = some c := ⟨_, List.getElem?_eq_getElem (by omega)⟩
          have h1 := dec_cont hne hv hk0 hlt hc
          rcases hk c hc with e | e
          · omega
          · rw [h1] at e; cases e
        · have ih := valid_part n (l.drop (decodeL l).2) (k - (decodeL l).2) (by rw [List.length_drop]; omega) hs.symm (fun c hc => by
            rw [List.getElem?_drop, show (decodeL l).2 + (k - (decodeL l).2) = k by omega] at hc
            rcases hk c hc with e | e
            · omega
            · exact .inr e) (by rw [List.length_drop]; omega)
          rw [List.drop_drop, show (decodeL l).2 + (k - (decodeL l).2) = k by omega] at ih
          refine ⟨?_, ih.2⟩
          have e1 : l.take k = l.take (decodeL l).2 ++ (l.drop (decodeL l).2).take (k - (decodeL l).2) := by
            rw [← List.take_add]
            congr 1
            omega
          rw [e1]
          exact valid_app _ _ _ (Nat.le_refl _) ht ih.1
theorem valid_then : ∀ (n : Nat) (a b : List UInt8), a.length ≤ n → validD a = true → validD (a ++ b) = validD b
  | 0, a, b, h, _ => by
    have : a = [] := List.length_eq_zero_iff.1 (by omega)
    subst this; rfl
  | n + 1, a, b, h, ha => by
    by_cases hne : a = []
    · subst hne; rfl
    · rw [validD_step a hne] at ha
      split at ha
      · cases ha
      · rename_i hv
        have hw := decodeL_width a
        have hle := decodeL_le a hne
        rw [validD_step (a ++ b) (by simp [hne]), dec_app hne hv, if_neg hv, List.drop_append_of_le_length hle]
        exact valid_then n _ b (by rw [List.length_drop]; omega) ha
end Go.Proofs.YtlpnnnmdkglkcaaDoor

