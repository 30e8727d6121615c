/-
  What is shown is cut as it was; what is cut may be. Plain. No condition.
-/
import Derived.Test.YtlpnnnmdkglkcaaDoorZLexF
namespace Go.Proofs.YtlpnnnmdkglkcaaDoor
set_option linter.unusedSimpArgs false
set_option linter.unusedVariables false
open Go.RowKit

/-! ### numbers -/
theorem dig_nat {d : Nat} (h : d < 10) : (UInt8.ofNat (48 + d)).toNat = 48 + d := by
  rw [UInt8.toNat_ofNat']; omega
theorem dec_small {u : Nat} (h : u < 10) : Lib.decDigits u = [UInt8.ofNat (48 + u)] := Lib.decDigits_one h
theorem dec_big {u : Nat} (h : ¬ u < 10) : Lib.decDigits u = Lib.decDigits (u / 10) ++ [UInt8.ofNat (48 + u % 10)] := by rw [Lib.decDigits, dif_neg h]
theorem num_app : ∀ (l : List UInt8) (c : UInt8) (n : Nat), numF (l ++ [c]) n = (numF l n).bind fun m => numF [c] m
  | [], c, n => rfl
  | a :: l, c, n => by
    show (if _ then none else numF (l ++ [c]) _) = (if _ then none else numF l _).bind _
    split
    · rfl
    · exact num_app l c _
theorem dec_num (u : Nat) (h : u < 9223372036854775808) : numF (Lib.decDigits u) 0 = some u := by
  induction u using Nat.strongRecOn with
  | _ u ih =>
    by_cases hu : u < 10
    · rw [dec_small hu]
      show (if (9223372036854775807 - ((UInt8.ofNat (48 + u)).toNat - 48)) / 10 < 0 then none else some (10 * 0 + ((UInt8.ofNat (48 + u)).toNat - 48))) = _
      rw [if_neg (Nat.not_lt_zero _), dig_nat hu]
      congr 1
      omega
    · rw [dec_big hu, num_app, ih (u / 10) (by omega) (by omega)]
      show (if (9223372036854775807 - ((UInt8.ofNat (48 + u % 10)).toNat - 48)) / 10 < u / 10 then none else some (10 * (u / 10) + ((UInt8.ofNat (48 + u % 10)).toNat - 48))) = _
      rw [dig_nat (by omega : u % 10 < 10), if_neg (by omega)]
      congr 1
      omega
theorem dec_digits (u : Nat) : ∀ c ∈ Lib.decDigits u, digitB c = true := by
  have hd : ∀ d, d < 10 → digitB (UInt8.ofNat (48 + d)) = true := fun d h => by
    unfold digitB
    rw [dig_nat h, decide_eq_true (by omega), decide_eq_true (by omega)]; rfl
  induction u using Nat.strongRecOn with
  | _ u ih =>
    intro c hc
    by_cases hu : u < 10
    · rw [dec_small hu, List.mem_singleton] at hc
      subst hc
      exact hd u hu
    · rw [dec_big hu] at hc
      rcases List.mem_append.1 hc with hc | hc
      · exact ih (u / 10) (by omega) c hc
      · rw [List.mem_singleton] at hc
        subst hc
        exact hd _ (by omega)
theorem dec_head (u : Nat) : ∃ c l, Lib.decDigits u = c :: l ∧ (c = 48 → l = []) := by
  induction u using Nat.strongRecOn with
  | _ u ih =>
    by_cases hu : u < 10
    · exact ⟨_, [], dec_small hu, fun _ => rfl⟩
    · obtain ⟨c, l, h1, h2⟩ := ih (u / 10) (by omega)
      rw [dec_big hu, h1]
      refine ⟨c, _, rfl, fun hc => ?_⟩
      exfalso
      have hl := h2 hc
      subst hl hc
      by_cases h3 : u / 10 < 10
      · rw [dec_small h3] at h1
        injection h1 with h1
        have := congrArg UInt8.toNat h1
        rw [dig_nat h3] at this
        have : 48 + u / 10 = 48 := this
        omega
      · have h4 := congrArg List.length h1
        rw [dec_big h3, List.length_append] at h4
        obtain ⟨c2, l2, h5, _⟩ := ih (u / 10 / 10) (by omega)
        rw [h5] at h4
        simp at h4
/-! ### quotes -/
theorem quo_cons {c : UInt8} (h : c ≠ 39) : ∀ l : List UInt8, quoF (c :: l) = (quoF l).map fun r => (c :: r.1, r.2 + 1)
  | [] => by
    show (if c = 39 then _ else _) = _
    rw [if_neg h]; rfl
  | d :: l => by
    show (if c = 39 then _ else _) = _
    rw [if_neg h]
theorem quo_two (l : List UInt8) : quoF (39 :: 39 :: l) = (quoF l).map fun r => (39 :: r.1, r.2 + 2) := rfl
theorem quo_end {r : List UInt8} (h : r.head? ≠ some 39) : quoF (39 :: r) = some ([], 1) := by
  cases r with
  | nil => rfl
  | cons d l =>
    show (if (39 : UInt8) = 39 then (if d = 39 then _ else _) else _) = _
    rw [if_pos rfl, if_neg fun e => h (by rw [e]; rfl)]
theorem quo_dbl {r : List UInt8} (h : r.head? ≠ some 39) : ∀ b : List UInt8, quoF (dblL b ++ 39 :: r) = some (b, (dblL b).length + 1)
  | [] => quo_end h
  | c :: b => by
    have ih := quo_dbl h b
    rw [dblL]
    split
    · rename_i hc
      subst hc
      show quoF (39 :: 39 :: (dblL b ++ 39 :: r)) = _
      rw [quo_two, ih]
      rfl
    · rename_i hc
      show quoF (c :: (dblL b ++ 39 :: r)) = _
      rw [quo_cons hc, ih]
      rfl
/-! ### hexadecimals -/
theorem hexV_D {n : Nat} (h : n < 16) : hexV (hexD n) = some n := by
  have : ∀ n : Fin 16, hexV (hexD n.val) = some n.val := by decide
  exact this ⟨n, h⟩
theorem hexV_lt {c : UInt8} {d : Nat} (h : hexV c = some d) : d < 16 := by
  unfold hexV digitB at h
  split at h
  · rename_i hc
    simp only [Bool.and_eq_true, decide_eq_true_eq] at hc
    injection h with h
    omega
  · split at h
    · injection h with h
      omega
    · cases h
theorem hex_app : ∀ (l r : List UInt8) (j m v : Nat), hexF l.length l m = .ok v → hexF (l.length + j) (l ++ r) m = hexF j r v
  | [], r, j, m, v, h => by
    injection h with h
    subst h
    show hexF (0 + j) r m = _
    rw [Nat.zero_add]
  | c :: l, r, j, m, v, h => by
    rw [List.length_cons, show l.length + 1 + j = l.length + j + 1 by omega]
    show (match hexV c with | none => HR.err 3 | some d => hexF (l.length + j) (l ++ r) (m * 16 + d)) = _
    have h : (match hexV c with | none => HR.err 3 | some d => hexF l.length l (m * 16 + d)) = .ok v := h
    cases hv : hexV c with
    | none => rw [hv] at h; cases h
    | some d =>
      rw [hv] at h
      exact hex_app l r j _ v h
theorem hexL_len : ∀ k n : Nat, (hexL k n).length = k
  | 0, _ => rfl
  | k + 1, n => by rw [hexL, List.length_append, hexL_len k]; rfl
theorem hexL_F : ∀ (k n m : Nat), n < 16 ^ k → hexF k (hexL k n) m = .ok (m * 16 ^ k + n)
  | 0, n, m, h => by
    have : n = 0 := by simpa using h
    subst this
    show HR.ok m = _
    simp
  | k + 1, n, m, h => by
    have h1 := hexL_F k (n / 16) m (by rw [Nat.pow_succ] at h; omega)
    have hl := hexL_len k (n / 16)
    have h2 := hex_app (hexL k (n / 16)) [hexD (n % 16)] 1 m (m * 16 ^ k + n / 16) (by rw [hl]; exact h1)
    rw [hl] at h2
    rw [hexL, h2]
    show (match hexV (hexD (n % 16)) with | none => HR.err 3 | some d => HR.ok ((m * 16 ^ k + n / 16) * 16 + d)) = _
    rw [hexV_D (by omega)]
    simp only
    congr 1
    rw [Nat.pow_succ, Nat.add_mul, Nat.mul_assoc]
    omega
theorem hexF_lt : ∀ (k : Nat) (l : List UInt8) (m v : Nat), hexF k l m = .ok v → v < (m + 1) * 16 ^ k
  | 0, l, m, v, h => by
    injection h with h
    subst h
    simp
  | k + 1, [], m, v, h => by cases h
  | k + 1, c :: l, m, v, h => by
    have h : (match hexV c with | none => HR.err 3 | some d => hexF k l (m * 16 + d)) = .ok v := h
    cases hv : hexV c with
    | none => rw [hv] at h; cases h
    | some d =>
      rw [hv] at h
      have h1 := hexF_lt k l _ v h
      have h2 := hexV_lt hv
      have h3 : (m * 16 + d + 1) * 16 ^ k ≤ ((m + 1) * 16) * 16 ^ k := Nat.mul_le_mul_right _ (by omega)
      rw [Nat.mul_assoc] at h3
      rw [Nat.pow_succ, Nat.mul_comm (16 ^ k) 16]
      omega
/-! ### tokens -/
theorem ba_eta (n : ByteArray) : (⟨n.data.toList.toArray⟩ : ByteArray) = n := by cases n; simp
theorem sep_no {p : UInt8 → Bool} (h32 : p 32 = false) (h9 : p 9 = false) (h10 : p 10 = false) {r : List UInt8} (h : Sep r) : ∀ c, r.head? = some c → p c = false := by
  intro c hc
  rcases blank_cases (sep_head h hc) with rfl | rfl | rfl
  · exact h32
  · exact h9
  · exact h10
theorem take_self (a r : List UInt8) : (a ++ r).take a.length = a := by simp
theorem wrd_self {k : Int} {p : UInt8 → Bool} {n : ByteArray} {r : List UInt8} (h1 : ∀ d ∈ n.data.toList, p d = true) (h2 : ∀ c, r.head? = some c → p c = false) (h8 : n.size ≤ 8) : wrdT k p (n.data.toList ++ r) = .ok ⟨k, n, 0, 0⟩ n.data.toList.length := by
  have hs : n.size = n.data.toList.length := by rw [Array.length_toList]; rfl
  unfold wrdT
  rw [run_all h1 h2, if_neg (by omega), take_self, ba_eta]
theorem dbl_len : ∀ b : List UInt8, b.length ≤ (dblL b).length
  | [] => Nat.le_refl _
  | c :: b => by
    have := dbl_len b
    rw [dblL]
    split <;> simp only [List.length_cons] <;> omega
theorem sgn_self {s : ByteArray} (h : s ∈ lexSigns) {r : List UInt8} (hr : Sep r) : sgnT (s.data.toList ++ r) = .ok ⟨6, s, 0, 0⟩ s.data.toList.length ∧ ∃ c l, s.data.toList = c :: l ∧ blankB c = false ∧ (c = 45 → l = []) ∧ smallB c = false ∧ greatB c = false ∧ digitB c = false ∧ c ≠ 39 ∧ c ≠ 35 := by
  unfold lexSigns at h
  simp only [List.mem_cons, List.not_mem_nil, or_false] at h
  rcases hr with rfl | ⟨d, l, rfl, hd⟩
  · rcases h with rfl | rfl | rfl | rfl | rfl | rfl | rfl | rfl | rfl | rfl | rfl | rfl | rfl | rfl | rfl | rfl <;>
      exact ⟨rfl, _, _, rfl, by decide, by decide, by decide, by decide, by decide, by decide, by decide⟩
  · rcases blank_cases hd with rfl | rfl | rfl <;>
    rcases h with rfl | rfl | rfl | rfl | rfl | rfl | rfl | rfl | rfl | rfl | rfl | rfl | rfl | rfl | rfl | rfl <;>
      refine ⟨?_, _, _, rfl, by decide, by decide, by decide, by decide, by decide, by decide, by decide⟩
    all_goals
      unfold sgnT
      first
      | (rw [if_pos ⟨by simp [sgnL], by simp⟩]; rfl)
      | (rw [if_neg fun e => absurd e.1 (by simp [sgnL]), if_pos ⟨by simp [sgnL], by simp⟩]; rfl)
/-- A token, shown, is cut as it was. -/
theorem tok_shown {t : Tk} (h : TkL t) {r : List UInt8} (hr : Sep r) : tokF (shwT t ++ r) = .ok t (shwT t).length ∧ ∃ c l, shwT t = c :: l ∧ blankB c = false ∧ (c = 45 → l = []) := by
  cases h with
  | name n h =>
    obtain ⟨c, l, hc, hs, h8, hall⟩ := name_get h
    have h1 := wrd_self (k := 1) (p := inNameB) hall (sep_no (by decide) (by decide) (by decide) hr) h8
    show tokF (n.data.toList ++ r) = .ok _ n.data.toList.length ∧ ∃ c l, n.data.toList = c :: l ∧ _
    have hsm : 97 ≤ c.toNat ∧ c.toNat ≤ 122 := by unfold smallB at hs; simpa using hs
    refine ⟨?_, c, l, hc, ?_, fun e => ?_⟩
    · rw [← h1, hc]
      show (if smallB c then _ else _) = _
      rw [if_pos hs]; rfl
    · cases hb : blankB c with
      | false => rfl
      | true => rcases blank_cases hb with rfl | rfl | rfl <;> exact absurd hs (by decide)
    · subst e; exact absurd hs (by decide)
  | word n h =>
    obtain ⟨h0, h8, hall⟩ := h
    have h1 := wrd_self (k := 2) (p := greatB) (List.all_eq_true.1 hall) (sep_no (by decide) (by decide) (by decide) hr) h8
    show tokF (n.data.toList ++ r) = .ok _ n.data.toList.length ∧ ∃ c l, n.data.toList = c :: l ∧ _
    cases hc : n.data.toList with
    | nil => exact absurd hc h0
    | cons c l =>
      rw [hc] at hall h1
      have hg : greatB c = true := List.all_eq_true.1 hall c (by simp)
      have hsm : 65 ≤ c.toNat ∧ c.toNat ≤ 90 := by unfold greatB at hg; simpa using hg
      refine ⟨?_, c, l, rfl, ?_, fun e => ?_⟩
      · rw [← h1]
        show (if smallB c then _ else if greatB c then _ else _) = _
        rw [if_neg (by unfold smallB; simp; omega), if_pos hg]; rfl
      · cases hb : blankB c with
        | false => rfl
        | true => rcases blank_cases hb with rfl | rfl | rfl <;> exact absurd hg (by decide)
      · subst e; exact absurd hg (by decide)
  | num n h =>
    obtain ⟨c, l, hc, hz⟩ := dec_head n
    have hd := dec_digits n
    have hrun := run_all hd (sep_no (by decide) (by decide) (by decide) hr)
    have htk := take_self (Lib.decDigits n) r
    have hv := dec_num n h
    show tokF (Lib.decDigits n ++ r) = .ok _ (Lib.decDigits n).length ∧ ∃ c l, Lib.decDigits n = c :: l ∧ _
    have hg : digitB c = true := hd c (by rw [hc]; simp)
    have hsm : 48 ≤ c.toNat ∧ c.toNat ≤ 57 := by unfold digitB at hg; simpa using hg
    refine ⟨?_, c, l, hc, ?_, fun e => ?_⟩
    · have : tokF (Lib.decDigits n ++ r) = numT (Lib.decDigits n ++ r) := by
        rw [hc]
        show (if smallB c then _ else if greatB c then _ else if digitB c then _ else _) = _
        rw [if_neg (by unfold smallB; simp; omega), if_neg (by unfold greatB; simp; omega), if_pos hg]; rfl
      rw [this]
      unfold numT
      rw [hrun, htk, hv, if_neg]
      rintro ⟨e1, e2⟩
      rw [hc] at e1 e2
      injection e2 with e2
      rw [hz e2] at e1
      simp at e1
    · cases hb : blankB c with
      | false => rfl
      | true => rcases blank_cases hb with rfl | rfl | rfl <;> exact absurd hg (by decide)
    · subst e; exact absurd hg (by decide)
  | quote b h1 h2 =>
    have hs : b.size = b.data.toList.length := by rw [Array.length_toList]; rfl
    have hq := quo_dbl (r := r) (fun e => by have := sep_no (p := fun c => c == 39) (by decide) (by decide) (by decide) hr _ e; simp at this) b.data.toList
    show tokF (39 :: (dblL b.data.toList ++ [39]) ++ r) = .ok _ (39 :: (dblL b.data.toList ++ [39])).length ∧ ∃ c l, 39 :: (dblL b.data.toList ++ [39]) = c :: l ∧ _
    refine ⟨?_, _, _, rfl, by decide, fun e => absurd e (by decide)⟩
    show tokF (39 :: ((dblL b.data.toList ++ [39]) ++ r)) = _
    have : tokF (39 :: ((dblL b.data.toList ++ [39]) ++ r)) = quoT ((dblL b.data.toList ++ [39]) ++ r) := rfl
    rw [this, List.append_assoc]
    unfold quoT
    have hq : quoF (dblL b.data.toList ++ ([39] ++ r)) = _ := hq
    rw [hq]
    simp only
    rw [if_neg (by omega), if_pos h2, ba_eta]
    simp
  | hex b h1 h2 =>
    show tokF (35 :: hexL 16 b ++ r) = .ok _ (35 :: hexL 16 b).length ∧ ∃ c l, 35 :: hexL 16 b = c :: l ∧ _
    have h3 := hexL_F 16 b 0 (by omega)
    have h4 := hex_app (hexL 16 b) r 0 0 b (by rw [hexL_len, h3, Nat.zero_mul, Nat.zero_add])
    rw [hexL_len] at h4
    have h5 := hexL_len 16 b
    have h4 : hexF 16 (hexL 16 b ++ r) 0 = .ok b := h4
    clear h3
    generalize hexL 16 b = hl at *
    refine ⟨?_, _, _, rfl, by decide, fun e => absurd e (by decide)⟩
    have : tokF (35 :: hl ++ r) = hexT (hl ++ r) := rfl
    rw [this]
    unfold hexT
    rw [h4]
    simp only
    rw [if_pos h2, List.length_cons, h5]
  | sign s h =>
    obtain ⟨h1, c, l, hc, h3, h4, h5, h6, h7, h8, h9⟩ := sgn_self h hr
    show tokF (s.data.toList ++ r) = .ok _ s.data.toList.length ∧ ∃ c l, s.data.toList = c :: l ∧ _
    refine ⟨?_, c, l, hc, h3, h4⟩
    rw [← h1, hc]
    show (if smallB c then _ else if greatB c then _ else if digitB c then _ else if c = 39 then _ else if c = 35 then _ else _) = _
    rw [if_neg (by rw [h5]; decide), if_neg (by rw [h6]; decide), if_neg (by rw [h7]; decide), if_neg h8, if_neg h9]; rfl
end Go.Proofs.YtlpnnnmdkglkcaaDoor

