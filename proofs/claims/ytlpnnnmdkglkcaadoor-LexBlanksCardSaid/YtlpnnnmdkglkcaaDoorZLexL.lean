/-
  Quotes doubled, noughts ahead: what the library's functions give is what is shown. Plain. No condition.
-/
import Derived.Test.YtlpnnnmdkglkcaaDoorZLexF
import Derived.Lib.ReplaceLaws
import Derived.Lib.Repeat
namespace Go.Proofs.YtlpnnnmdkglkcaaDoor
set_option linter.unusedSimpArgs false
set_option linter.unusedVariables false
open Go.RowKit

theorem idx_hit (l : List UInt8) : Lib.index (39 :: l) [39] = 0 := by
  unfold Lib.index
  rw [if_pos (by simp [List.isPrefixOf])]
theorem idx_miss {b : UInt8} (h : b ≠ 39) (l : List UInt8) : Lib.index (b :: l) [39] = if Lib.index l [39] = -1 then -1 else Lib.index l [39] + 1 := by
  rw [Lib.index, if_neg (by simp [List.isPrefixOf, Ne.symm h])]
  by_cases hi : Lib.index l [39] = -1
  · rw [if_pos hi, if_pos (by rw [hi]; rfl)]
  · rw [if_neg hi, if_neg (by simpa using hi)]
theorem rep_hit (k : Nat) (l : List UInt8) : Lib.replaceK [39] [39, 39] (k + 1) (39 :: l) = 39 :: 39 :: Lib.replaceK [39] [39, 39] k l := by
  rw [Lib.replaceK_hit [39] [39, 39] k (39 :: l) 0 (idx_hit l)]
  rfl
theorem rep_miss {b : UInt8} (h : b ≠ 39) (l : List UInt8) : ∀ k : Nat, Lib.replaceK [39] [39, 39] k (b :: l) = b :: Lib.replaceK [39] [39, 39] k l
  | 0 => rfl
  | k + 1 => by
    have hge := Lib.index_ge l [39]
    have e1 := idx_miss h l
    rw [Lib.replaceK, Lib.replaceK, e1]
    by_cases hi : Lib.index l [39] = -1
    · rw [if_pos hi, hi, if_pos (by decide), if_pos (by decide)]
    · rw [if_neg hi, if_neg (by rw [beq_iff_eq]; omega), if_neg (by rw [beq_iff_eq]; exact hi)]
      obtain ⟨n, hn⟩ : ∃ n : Nat, Lib.index l [39] = n := ⟨(Lib.index l [39]).toNat, by omega⟩
      rw [hn]
      have h1 : ((n : Int) + 1).toNat = n + 1 := by omega
      have h2 : ((n : Int)).toNat = n := by omega
      rw [h1, h2, List.take_succ_cons]
      show b :: (l.take n ++ [39, 39] ++ Lib.replaceK [39] [39, 39] k ((b :: l).drop (n + 1 + 1))) = _
      rfl
theorem rep_dbl : ∀ (l : List UInt8) (k : Nat), l.count 39 ≤ k → Lib.replaceK [39] [39, 39] k l = dblL l
  | [], k, _ => by
    cases k with
    | zero => rfl
    | succ k => rfl
  | b :: l, k, h => by
    by_cases hb : b = 39
    · subst hb
      rw [List.count_cons_self] at h
      obtain ⟨j, rfl⟩ : ∃ j, k = j + 1 := ⟨k - 1, by omega⟩
      rw [rep_hit, rep_dbl l j (by omega), dblL, if_pos rfl]
    · rw [List.count_cons_of_ne hb] at h
      rw [rep_miss hb, rep_dbl l k h, dblL, if_neg hb]
theorem cnt_ge : ∀ (l : List UInt8) (f : Nat), l.length < f → l.count 39 ≤ Lib.countFrom [39] f l
  | [], f, _ => Nat.zero_le _
  | b :: l, f, h => by
    obtain ⟨j, rfl⟩ : ∃ j, f = j + 1 := ⟨f - 1, by omega⟩
    rw [List.length_cons] at h
    by_cases hb : b = 39
    · subst hb
      have := cnt_ge l j (by omega)
      rw [List.count_cons_self, Lib.countFrom, idx_hit, if_neg (by decide)]
      show _ ≤ 1 + Lib.countFrom [39] j l
      omega
    · have ih := cnt_ge l (j + 1) (by omega)
      have hge := Lib.index_ge l [39]
      rw [List.count_cons_of_ne hb]
      rw [Lib.countFrom] at ih ⊢
      rw [idx_miss hb]
      by_cases hi : Lib.index l [39] = -1
      · rw [if_pos hi, if_pos (by decide)]
        rwa [hi, if_pos (by decide)] at ih
      · rw [if_neg hi, if_neg (by rw [beq_iff_eq]; omega)]
        rw [if_neg (by rw [beq_iff_eq]; exact hi)] at ih
        obtain ⟨n, hn⟩ : ∃ n : Nat, Lib.index l [39] = n := ⟨(Lib.index l [39]).toNat, by omega⟩
        rw [hn] at ih ⊢
        have h1 : ((n : Int) + 1).toNat = n + 1 := by omega
        have h2 : ((n : Int)).toNat = n := by omega
        rw [h1]
        rw [h2] at ih
        exact ih
theorem replace_dbl (l : List UInt8) : Lib.replaceAll l [39] [39, 39] = dblL l := by
  unfold Lib.replaceAll Lib.replace Lib.replaceNum
  rw [if_neg (by decide), if_pos (.inl (by decide))]
  exact rep_dbl l _ (cnt_ge l _ (Nat.lt_succ_self _))
/-! ### hexadecimals -/
/-- No noughts ahead. -/
def hexMin (n : Nat) : List UInt8 := if h : n < 16 then [hexD n] else hexMin (n / 16) ++ [hexD (n % 16)]
termination_by n
decreasing_by omega
theorem hexMin_small {n : Nat} (h : n < 16) : hexMin n = [hexD n] := by rw [hexMin, dif_pos h]
theorem hexMin_big {n : Nat} (h : ¬ n < 16) : hexMin n = hexMin (n / 16) ++ [hexD (n % 16)] := by rw [hexMin, dif_neg h]
theorem hexL_zero : ∀ k : Nat, hexL k 0 = List.replicate k 48
  | 0 => rfl
  | k + 1 => by
    rw [hexL, show 0 / 16 = 0 from rfl, hexL_zero k, List.replicate_succ']
    rfl
theorem hexMin_pad : ∀ (k n : Nat), 0 < k → n < 16 ^ k → (hexMin n).length ≤ k ∧ List.replicate (k - (hexMin n).length) 48 ++ hexMin n = hexL k n
  | 0, n, h0, h => absurd h0 (by omega)
  | k + 1, n, h0, h => by
    by_cases hn : n < 16
    · rw [hexMin_small hn, hexL, show n / 16 = 0 by omega, hexL_zero, Nat.mod_eq_of_lt hn]
      exact ⟨by simp, by simp⟩
    · have hk : 0 < k := by
        rcases Nat.eq_zero_or_pos k with rfl | hk
        · simp at h; omega
        · exact hk
      obtain ⟨h1, h2⟩ := hexMin_pad k (n / 16) hk (by rw [Nat.pow_succ] at h; omega)
      rw [hexMin_big hn, hexL, List.length_append]
      refine ⟨by simp; omega, ?_⟩
      rw [← h2, ← List.append_assoc]
      congr 3
      simp
theorem repeat_nought : ∀ c : Nat, Lib.repeatL [48] c = List.replicate c 48
  | 0 => rfl
  | c + 1 => by
    rw [List.replicate_succ, ← repeat_nought c]
    rfl
end Go.Proofs.YtlpnnnmdkglkcaaDoor

