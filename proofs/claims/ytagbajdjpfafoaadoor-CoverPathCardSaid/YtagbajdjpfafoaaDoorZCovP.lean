/-
  The cover of one slot is its path. Plain laws.
-/
import Derived.Test.YtagbajdjpfafoaaDoorZCovL
namespace Go.Proofs.YtagbajdjpfafoaaDoor
set_option linter.unusedSimpArgs false
set_option linter.unusedVariables false

theorem path_top (m : Int) : ∀ (j : Nat) (r : List (List UInt8)) (i : Nat), r.length = 2 ^ (j + 1) → i < 2 ^ (j + 1) →
    pathG m (j + 1) r i = if i < 2 ^ j then pathG m j (r.take (2 ^ j)) i ++ [rootR m j (r.drop (2 ^ j))] else pathG m j (r.drop (2 ^ j)) (i - 2 ^ j) ++ [rootR m j (r.take (2 ^ j))]
  | 0, [a, b], i, _, hi => by
    have hi : i < 2 := hi
    match i, hi with
    | 0, _ => rfl
    | 1, _ => rfl
  | 0, [], _, h, _ => by simp at h
  | 0, [_], _, h, _ => by simp at h
  | 0, _ :: _ :: _ :: _, _, h, _ => by simp at h
  | j + 1, r, i, h, hi => by
    have hp : 2 ^ (j + 1) = 2 * 2 ^ j := by rw [Nat.pow_succ]; omega
    have hp2 : 2 ^ (j + 1 + 1) = 2 * 2 ^ (j + 1) := by rw [Nat.pow_succ]; omega
    have ih := path_top m j (upF m r) (i / 2) (upF_len m (2 ^ (j + 1)) r (by omega)) (by omega)
    obtain ⟨u1, u2⟩ := upF_takeN m (2 ^ j) r (by omega)
    rw [← hp] at u1 u2
    rw [← u1, ← u2] at ih
    by_cases hlt : i < 2 ^ (j + 1)
    · rw [if_pos hlt]
      rw [if_pos (by omega)] at ih
      show r.getD (sib i) [] :: pathG m (j + 1) (upF m r) (i / 2) = ((r.take (2 ^ (j + 1))).getD (sib i) [] :: pathG m j (upF m (r.take (2 ^ (j + 1)))) (i / 2)) ++ [rootR m j (upF m (r.drop (2 ^ (j + 1))))]
      have hs : sib i < 2 ^ (j + 1) := by unfold sib; split <;> omega
      rw [ih, List.getD_eq_getElem?_getD, List.getD_eq_getElem?_getD, List.getElem?_take, if_pos hs]
      rfl
    · rw [if_neg hlt]
      rw [if_neg (by omega)] at ih
      show r.getD (sib i) [] :: pathG m (j + 1) (upF m r) (i / 2) = ((r.drop (2 ^ (j + 1))).getD (sib (i - 2 ^ (j + 1))) [] :: pathG m j (upF m (r.drop (2 ^ (j + 1)))) ((i - 2 ^ (j + 1)) / 2)) ++ [rootR m j (upF m (r.take (2 ^ (j + 1))))]
      have hs : 2 ^ (j + 1) + sib (i - 2 ^ (j + 1)) = sib i := by
        unfold sib
        split <;> split <;> omega
      rw [ih, List.getD_eq_getElem?_getD, List.getD_eq_getElem?_getD, List.getElem?_drop, hs, show (i - 2 ^ (j + 1)) / 2 = i / 2 - 2 ^ j by omega]
      rfl
/-- Those beside the way on the left, from the top down, and those on the right, from the bottom up. -/
def lsF (i : Nat) : Nat → List (List UInt8) → List (List UInt8) × List (List UInt8)
  | _, [] => ([], [])
  | k, p :: P => if i / 2 ^ k % 2 = 1 then ((lsF i (k + 1) P).1 ++ [p], (lsF i (k + 1) P).2) else ((lsF i (k + 1) P).1, p :: (lsF i (k + 1) P).2)
theorem lsF_append (i : Nat) (x : List UInt8) : ∀ (k : Nat) (P : List (List UInt8)), lsF i k (P ++ [x]) = if i / 2 ^ (k + P.length) % 2 = 1 then (x :: (lsF i k P).1, (lsF i k P).2) else ((lsF i k P).1, (lsF i k P).2 ++ [x])
  | k, [] => by
    by_cases hb : i / 2 ^ k % 2 = 1 <;> simp [lsF, hb]
  | k, p :: P => by
    have ih := lsF_append i x (k + 1) P
    have e : k + 1 + P.length = k + (p :: P).length := by rw [List.length_cons]; omega
    rw [e] at ih
    show (if i / 2 ^ k % 2 = 1 then ((lsF i (k + 1) (P ++ [x])).1 ++ [p], (lsF i (k + 1) (P ++ [x])).2) else ((lsF i (k + 1) (P ++ [x])).1, p :: (lsF i (k + 1) (P ++ [x])).2)) = _
    rw [ih]
    unfold lsF
    repeat' split
    all_goals simp_all [lsF]
theorem lsF_len (i : Nat) : ∀ (k : Nat) (P : List (List UInt8)), (lsF i k P).1.length + (lsF i k P).2.length = P.length
  | k, [] => rfl
  | k, p :: P => by
    have ih := lsF_len i (k + 1) P
    unfold lsF
    split
    · simp only [List.length_append, List.length_cons, List.length_nil]; omega
    · simp only [List.length_cons]; omega
theorem lsF_congr {i i' : Nat} : ∀ (k : Nat) (P : List (List UInt8)), (∀ q, k ≤ q → q < k + P.length → i / 2 ^ q % 2 = i' / 2 ^ q % 2) → lsF i k P = lsF i' k P
  | k, [], _ => rfl
  | k, p :: P, h => by
    have h0 := h k (Nat.le_refl _) (by rw [List.length_cons]; omega)
    have ih := lsF_congr (k + 1) P (fun q h1 h2 => h q (by omega) (by rw [List.length_cons]; omega))
    unfold lsF
    rw [h0, ih]
theorem low_bit {i j q : Nat} (h : 2 ^ j ≤ i) (hq : q < j) : i / 2 ^ q % 2 = (i - 2 ^ j) / 2 ^ q % 2 := by
  obtain ⟨d, rfl⟩ : ∃ d, j = q + (d + 1) := ⟨j - q - 1, by omega⟩
  have e : 2 ^ (q + (d + 1)) = 2 ^ q * (2 * 2 ^ d) := by rw [Nat.pow_add, Nat.pow_succ, Nat.mul_comm (2 ^ d) 2]
  obtain ⟨c, hc⟩ : ∃ c, i = c + 2 ^ q * (2 * 2 ^ d) := ⟨i - 2 ^ (q + (d + 1)), by omega⟩
  rw [e, hc, Nat.add_mul_div_left _ _ (Nat.two_pow_pos q), Nat.add_sub_cancel]
  omega
def hot (n i : Nat) : List Bool := (List.range n).map fun q => decide (q = i)
theorem hot_len (n i : Nat) : (hot n i).length = n := by simp [hot]
theorem hot_get (n i q : Nat) : (hot n i)[q]? = if q < n then some (decide (q = i)) else none := by
  unfold hot
  rw [List.getElem?_map]
  by_cases h : q < n
  · rw [List.getElem?_range h, if_pos h]; rfl
  · rw [List.getElem?_eq_none (by simpa using h), if_neg h]; rfl
theorem hot_any {n i : Nat} (h : i < n) : anyB (hot n i) = true := anyB_of (k := i) (by rw [hot_get, if_pos h]; simp)
theorem hot_none {n i : Nat} (h : n ≤ i) : anyB (hot n i) = false := by
  unfold anyB hot
  rw [List.any_eq_false]
  intro b hb
  obtain ⟨q, hq, rfl⟩ := List.mem_map.1 hb
  have := List.mem_range.1 hq
  simp; omega
theorem hot_take {n k i : Nat} (h : k ≤ n) : (hot n i).take k = hot k i := by
  apply List.ext_getElem?
  intro q
  rw [List.getElem?_take, hot_get, hot_get]
  split
  · rw [if_pos (by omega)]
  · rfl
theorem hot_drop {k i : Nat} (h : k ≤ i) : (hot (2 * k) i).drop k = hot k (i - k) := by
  apply List.ext_getElem?
  intro q
  rw [List.getElem?_drop, hot_get, hot_get]
  by_cases hq : q < k
  · rw [if_pos hq, if_pos (by omega)]
    congr 1
    rw [decide_eq_decide]
    omega
  · rw [if_neg hq, if_neg (by omega)]
theorem hot_drop_none {k i : Nat} (h : i < k) : anyB ((hot (2 * k) i).drop k) = false := by
  unfold anyB hot
  rw [List.any_eq_false]
  intro b hb
  obtain ⟨q, hq⟩ := List.getElem?_of_mem hb
  rw [List.getElem?_drop, List.getElem?_map] at hq
  by_cases hk : k + q < 2 * k
  · rw [List.getElem?_range hk] at hq
    simp only [Option.map_some, Option.some.injEq] at hq
    rw [← hq]
    simp; omega
  · rw [List.getElem?_eq_none (by simpa using hk)] at hq
    cases hq
theorem cov_one (m : Int) : ∀ (j : Nat) (l : List Sl3) (i : Nat) (s : Sl3), l.length = 2 ^ j → 2 ^ j ≤ 16 → l[i]? = some s →
    covF m j l (hot (2 ^ j) i) = ([s], (lsF i 0 (pathG m j (leavesF m l) i)).1 ++ (lsF i 0 (pathG m j (leavesF m l) i)).2)
  | 0, l, i, s, h, hj, hs => by
    have hi : i < l.length := (List.getElem?_eq_some_iff.1 hs).1
    match l, h, i, hi, hs with
    | [t], _, 0, _, hs =>
      have hs : some t = some s := hs
      injection hs with hs
      subst hs
      unfold covF
      rw [if_pos (hot_any (by decide))]
      rfl
  | j + 1, l, i, s, h, hj, hs => by
    have hp : 2 ^ (j + 1) = 2 * 2 ^ j := by rw [Nat.pow_succ]; omega
    have hi : i < l.length := (List.getElem?_eq_some_iff.1 hs).1
    have k1 : (l.take (2 ^ j)).length = 2 ^ j := by rw [List.length_take]; omega
    have k2 : (l.drop (2 ^ j)).length = 2 ^ j := by rw [List.length_drop]; omega
    have ht := path_top m j (leavesF m l) i (by rw [leavesF_len]; exact h) (by omega)
    have m1 : (leavesF m l).take (2 ^ j) = leavesF m (l.take (2 ^ j)) := by unfold leavesF; rw [List.map_take]
    have m2 : (leavesF m l).drop (2 ^ j) = leavesF m (l.drop (2 ^ j)) := by unfold leavesF; rw [List.map_drop]
    rw [m1, m2] at ht
    unfold covF
    rw [if_pos (hot_any (by omega)), hot_take (by omega), hp]
    by_cases hlt : i < 2 ^ j
    · rw [if_pos hlt] at ht
      have ih := cov_one m j (l.take (2 ^ j)) i s k1 (by omega) (by rw [List.getElem?_take, if_pos hlt]; exact hs)
      rw [ih, covF_none m j _ _ (hot_drop_none hlt), ht, lsF_append, pathG_len, Nat.zero_add, Nat.div_eq_of_lt hlt, if_neg (by decide), rootSF_two m k2 (by omega)]
      dsimp only
      rw [List.append_assoc]
      rfl
    · rw [if_neg hlt] at ht
      have ih := cov_one m j (l.drop (2 ^ j)) (i - 2 ^ j) s k2 (by omega) (by rw [List.getElem?_drop, show 2 ^ j + (i - 2 ^ j) = i by omega]; exact hs)
      have hd : i / 2 ^ j = 1 := Nat.div_eq_of_lt_le (by omega) (by omega)
      rw [hot_drop (by omega), ih, covF_none m j _ _ (hot_none (by omega)), ht, lsF_append, pathG_len, Nat.zero_add, hd, if_pos (by decide), rootSF_two m k1 (by omega)]
      rw [lsF_congr (i := i) (i' := i - 2 ^ j) 0 _ (fun q _ hq => low_bit (by omega) (by rw [pathG_len] at hq; omega))]
      rfl
theorem opn_hot : ∀ i, i < 16 → ∀ n, n ≤ 16 → opnF ((2 ^ i : Nat) : Int) n = hot n i := by
  intro i hi n hn
  have key : ∀ i, i < 16 → ∀ q, q < 16 → opnB ((2 ^ i : Nat) : Int) q = decide (q = i) := by decide +kernel
  unfold opnF hot
  apply List.map_congr_left
  intro q hq
  have := List.mem_range.1 hq
  exact key i hi q (by omega)
theorem bit_of : ∀ i : Nat, i < 16 → ∀ k, k < 4 → opnB (i : Int) k = decide (i / 2 ^ k % 2 = 1) := by decide +kernel
end Go.Proofs.YtagbajdjpfafoaaDoor
