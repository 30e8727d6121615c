/-
  What code.read reads, in plain words, and that it is the inverse of what code.one writes. No program in sight.
-/
import Derived.Test.YtclhmdobhlalmaaDoorZRowO
namespace Go.Proofs.YtclhmdobhlalmaaDoor
set_option linter.unusedSimpArgs false
set_option linter.unusedVariables false
open Go.RowKit

/-! ### whole numbers of eight bytes -/
def numU : Nat → UInt64 → List UInt8 → Nat × UInt64 × List UInt8
  | 0, n, s => (0, n, s)
  | _ + 1, _, [] => (4, 0, [])
  | k + 1, n, c :: s => numU k (n <<< 8 ||| c.toUInt64) s
def bv : List UInt8 → Nat
  | [] => 0
  | c :: l => c.toNat * 256 ^ l.length + bv l
theorem bv_lt : ∀ l : List UInt8, bv l < 256 ^ l.length
  | [] => by simp [bv]
  | c :: l => by
    have h1 := bv_lt l
    have h2 := c.toNat_lt
    rw [bv, List.length_cons, Nat.pow_succ]
    have h3 : (c.toNat + 1) * 256 ^ l.length ≤ 256 * 256 ^ l.length := Nat.mul_le_mul_right _ (by omega)
    rw [Nat.add_mul, Nat.one_mul] at h3
    omega
theorem beB_bv : ∀ (l : List UInt8) (x : Nat), beB l.length (x * 256 ^ l.length + bv l) = l
  | [], x => rfl
  | c :: l, x => by
    have h1 := bv_lt l
    have h2 := c.toNat_lt
    have hp : 0 < 256 ^ l.length := Nat.pow_pos (by decide)
    have e : x * 256 ^ (c :: l).length + bv (c :: l) = (x * 256 + c.toNat) * 256 ^ l.length + bv l := by
      rw [bv, List.length_cons, Nat.pow_succ, Nat.add_mul, Nat.mul_assoc, Nat.mul_comm 256 (256 ^ l.length)]
      omega
    rw [e]
    show UInt8.ofNat (((x * 256 + c.toNat) * 256 ^ l.length + bv l) / 256 ^ l.length) :: beB l.length _ = c :: l
    rw [beB_bv l (x * 256 + c.toNat)]
    congr 1
    rw [Nat.mul_comm, Nat.mul_add_div hp, Nat.div_eq_of_lt h1]
    apply UInt8.toNat_inj.1
    rw [UInt8.toNat_ofNat']
    omega
theorem bv_beB : ∀ (k n : Nat), bv (beB k n) = n % 256 ^ k
  | 0, n => by simp [beB, bv, Nat.mod_one]
  | k + 1, n => by
    have hl : ∀ k n, (beB k n).length = k := fun k n => by
      induction k with
      | zero => rfl
      | succ k ih => rw [beB, List.length_cons, ih]
    rw [beB, bv, hl, bv_beB k n, Nat.mod_pow_succ, UInt8.toNat_ofNat', Nat.mul_comm, show (2 : Nat) ^ 8 = 256 from rfl]
    omega
theorem beB_len : ∀ k n, (beB k n).length = k
  | 0, n => rfl
  | k + 1, n => by rw [beB, List.length_cons, beB_len k n]
theorem shl_or (n : UInt64) (c : UInt8) (h : n.toNat < 72057594037927936) : (n <<< 8 ||| c.toUInt64).toNat = n.toNat * 256 + c.toNat := by
  have hc := c.toNat_lt
  rw [UInt64.toNat_or, UInt64.toNat_shiftLeft, UInt8.toNat_toUInt64]
  rw [show (8 : UInt64).toNat % 64 = 8 from rfl, Nat.shiftLeft_eq, show (2 : Nat) ^ 8 = 256 from rfl, Nat.mod_eq_of_lt (by omega)]
  have := Nat.shiftLeft_add_eq_or_of_lt (a := n.toNat) (b := c.toNat) (i := 8) (by omega)
  rw [Nat.shiftLeft_eq, show (2 : Nat) ^ 8 = 256 from rfl] at this
  exact this.symm
theorem numU_ok : ∀ (k : Nat) (n : UInt64) (s r : List UInt8), k ≤ 8 → s.length = k → n.toNat < 256 ^ (8 - k) → ∃ m, numU k n (s ++ r) = (0, m, r) ∧ m.toNat = n.toNat * 256 ^ k + bv s
  | 0, n, s, r, _, hs, _ => by
    have : s = [] := List.eq_nil_of_length_eq_zero hs
    subst this
    exact ⟨n, rfl, by simp [bv]⟩
  | k + 1, n, [], r, _, hs, _ => by simp at hs
  | k + 1, n, c :: s, r, hk, hs, h => by
    have hs : s.length = k := by simpa using hs
    have hc := c.toNat_lt
    have e7 : 8 - k = (8 - (k + 1)) + 1 := by omega
    have h56 : n.toNat < 72057594037927936 := by
      have h1 : 256 ^ (8 - (k + 1)) ≤ 256 ^ 7 := Nat.pow_le_pow_right (by decide) (by omega)
      have h2 : (256 : Nat) ^ 7 = 72057594037927936 := by decide
      omega
    have e := shl_or n c h56
    have hb : (n <<< 8 ||| c.toUInt64).toNat < 256 ^ (8 - k) := by
      rw [e, e7, Nat.pow_succ]
      omega
    obtain ⟨m, h1, h2⟩ := numU_ok k (n <<< 8 ||| c.toUInt64) s r (by omega) hs hb
    refine ⟨m, h1, ?_⟩
    rw [h2, e, bv, hs, Nat.add_mul, Nat.mul_assoc, Nat.pow_succ, Nat.mul_comm 256 (256 ^ k), Nat.add_assoc]
theorem numU_short : ∀ (k : Nat) (n : UInt64) (s : List UInt8), s.length < k → (numU k n s).1 = 4
  | 0, n, s, h => by omega
  | k + 1, n, [], h => rfl
  | k + 1, n, c :: s, h => numU_short k _ s (by simpa using h)
theorem numU_inv : ∀ (k : Nat) (n m : UInt64) (s r : List UInt8), numU k n s = (0, m, r) → ∃ p, s = p ++ r ∧ p.length = k
  | 0, n, m, s, r, h => by
    injection h with _ h
    injection h with _ h
    exact ⟨[], h, rfl⟩
  | k + 1, n, m, [], r, h => by
    injection h with h _
    cases h
  | k + 1, n, m, c :: s, r, h => by
    obtain ⟨p, h1, h2⟩ := numU_inv k _ m s r h
    exact ⟨c :: p, by rw [h1]; rfl, by rw [List.length_cons, h2]⟩
theorem num_eight (n : UInt64) (r : List UInt8) : numU 8 0 (eightB n ++ r) = (0, n, r) := by
  have h8 : (256 : Nat) ^ 8 = 18446744073709551616 := by decide
  obtain ⟨m, h1, h2⟩ := numU_ok 8 0 (eightB n) r (by omega) (eightK_len n 8) (by decide)
  have h0 : (0 : UInt64).toNat = 0 := rfl
  rw [h0, Nat.zero_mul, Nat.zero_add, eightB_be, bv_beB, h8, Nat.mod_eq_of_lt n.toNat_lt] at h2
  rw [h1, UInt64.toNat_inj.1 h2]
theorem eight_num {m : UInt64} {s r : List UInt8} (h : numU 8 0 s = (0, m, r)) : s = eightB m ++ r := by
  obtain ⟨p, h1, h2⟩ := numU_inv 8 0 m s r h
  subst h1
  obtain ⟨m', h3, h4⟩ := numU_ok 8 0 p r (by omega) h2 (by decide)
  rw [h] at h3
  injection h3 with _ h3
  injection h3 with h3 _
  subst h3
  have h0 : (0 : UInt64).toNat = 0 := rfl
  rw [h0] at h4
  have h5 := beB_bv p 0
  rw [h2, ← h4] at h5
  rw [eightB_be, h5]
/-! ### reals -/
def backF (n : UInt64) : UInt64 := if (n &&& topU) ≠ 0 then n &&& ~~~topU else 18446744073709551615 ^^^ n
theorem top_iff (n : UInt64) : (n &&& topU) ≠ 0 ↔ 9223372036854775808 ≤ n.toNat := by
  have h := and_top n.toNat n.toNat_lt
  have e : (n &&& topU).toNat = n.toNat &&& 9223372036854775808 := UInt64.toNat_and ..
  rw [← e] at h
  have h0 : (n &&& topU) = 0 ↔ (n &&& topU).toNat = 0 := ⟨fun h => by rw [h]; rfl, fun h => UInt64.toNat_inj.1 h⟩
  rw [Ne, h0, h]
  split <;> omega
theorem backF_nat (n : UInt64) : (backF n).toNat = if 9223372036854775808 ≤ n.toNat then n.toNat - 9223372036854775808 else 18446744073709551615 - n.toNat := by
  have hn := n.toNat_lt
  unfold backF
  by_cases h : 9223372036854775808 ≤ n.toNat
  · rw [if_pos ((top_iff n).2 h), if_pos h, UInt64.toNat_and]
    have e : (~~~topU).toNat = 2 ^ 63 - 1 := by decide
    have e63 : (2 : Nat) ^ 63 = 9223372036854775808 := by decide
    rw [e, Nat.and_two_pow_sub_one_eq_mod, e63]
    omega
  · rw [if_neg (fun x => h ((top_iff n).1 x)), if_neg h, not64]
theorem back_turn (n : UInt64) : backF (turnF n) = n := by
  have hn := n.toNat_lt
  apply UInt64.toNat_inj.1
  rw [backF_nat, turnF_nat]
  split <;> split <;> omega
theorem turn_back (n : UInt64) : turnF (backF n) = n := by
  have hn := n.toNat_lt
  apply UInt64.toNat_inj.1
  rw [turnF_nat, backF_nat]
  split <;> split <;> omega
/-- The whole number that the bits are. -/
def intU (n : UInt64) : Int := IntKind.i64.wrap ((n ^^^ topU).toNat : Int)
theorem intU_eq (n : UInt64) : intU n = (n.toNat : Int) - 9223372036854775808 := by
  have hn := n.toNat_lt
  unfold intU
  have e : (n ^^^ topU).toNat = n.toNat ^^^ 9223372036854775808 := UInt64.toNat_xor ..
  rw [e, xor_top n.toNat hn]
  rw [IntKind.wrap_i64]
  split <;> omega
theorem int_low {n : Int} (h1 : -9223372036854775808 ≤ n) (h2 : n < 9223372036854775808) : intU (lowL n ^^^ topU) = n := by
  have h := low_top h1 h2
  rw [intU_eq]
  omega
theorem low_int (n : UInt64) : lowL (intU n) ^^^ topU = n := by
  have hn := n.toNat_lt
  apply UInt64.toNat_inj.1
  have e := intU_eq n
  have h := low_top (n := intU n) (by omega) (by omega)
  omega
/-! ### texts -/
def txtU : List UInt8 → List UInt8 → Nat × List UInt8 × List UInt8
  | _, [] => (4, [], [])
  | o, c :: s => if c = 0 then (match s with
      | [] => (4, [], [])
      | d :: s' => if d = 1 then (0, o, s') else if d = 255 then (if o.length = 40 then (1, [], s') else txtU (o ++ [0]) s') else (3, [], s'))
    else if o.length = 40 then (1, [], s) else txtU (o ++ [c]) s
theorem txtU_cons (o : List UInt8) (c : UInt8) (s : List UInt8) : txtU o (c :: s) = if c = 0 then (match s with
      | [] => (4, [], [])
      | d :: s' => if d = 1 then (0, o, s') else if d = 255 then (if o.length = 40 then (1, [], s') else txtU (o ++ [0]) s') else (3, [], s'))
    else if o.length = 40 then (1, [], s) else txtU (o ++ [c]) s := by
  cases s <;> rfl
theorem txtU_z (o : List UInt8) (d : UInt8) (s : List UInt8) : txtU o (0 :: d :: s) = if d = 1 then (0, o, s) else if d = 255 then (if o.length = 40 then (1, [], s) else txtU (o ++ [0]) s) else (3, [], s) := by
  rw [txtU_cons, if_pos rfl]
theorem txtU_c (o : List UInt8) {c : UInt8} (h : c ≠ 0) (s : List UInt8) : txtU o (c :: s) = if o.length = 40 then (1, [], s) else txtU (o ++ [c]) s := by
  rw [txtU_cons, if_neg h]
theorem txt_esc : ∀ (t o r : List UInt8), o.length + t.length ≤ 40 → txtU o (escF t ++ 0 :: 1 :: r) = (0, o ++ t, r)
  | [], o, r, h => by
    rw [List.append_nil]
    rfl
  | c :: t, o, r, h => by
    rw [List.length_cons] at h
    have ih := txt_esc t (o ++ [c]) r (by rw [List.length_append]; simp; omega)
    rw [List.append_assoc] at ih
    have e : escF (c :: t) = escB c ++ escF t := List.flatMap_cons ..
    rw [e, List.append_assoc]
    unfold escB
    by_cases hc : c = 0
    · subst hc
      rw [if_pos rfl]
      show txtU o (0 :: 255 :: (escF t ++ 0 :: 1 :: r)) = _
      rw [txtU_z, if_neg (by decide), if_pos rfl, if_neg (by omega)]
      exact ih
    · rw [if_neg hc]
      show txtU o (c :: (escF t ++ 0 :: 1 :: r)) = _
      rw [txtU_c _ hc, if_neg (by omega)]
      exact ih
theorem txt_cut : ∀ (t o p q : List UInt8), o.length + t.length ≤ 40 → q ≠ [] → escF t ++ [0, 1] = p ++ q → (txtU o p).1 = 4
  | _, o, [], q, h, hq, e => rfl
  | [], o, [c], q, h, hq, e => by
    injection e with e _
    subst e
    rfl
  | [], o, c :: d :: p, q, h, hq, e => by
    injection e with _ e
    injection e with _ e
    have : q = [] := (List.append_eq_nil_iff.1 e.symm).2
    exact absurd this hq
  | c :: t, o, a :: p, q, h, hq, e => by
    rw [List.length_cons] at h
    have e1 : escF (c :: t) = escB c ++ escF t := List.flatMap_cons ..
    rw [e1, List.append_assoc] at e
    unfold escB at e
    by_cases hc : c = 0
    · subst hc
      rw [if_pos rfl] at e
      injection e with ea e
      subst ea
      cases p with
      | nil => rfl
      | cons b p =>
        injection e with eb e
        subst eb
        rw [txtU_z, if_neg (by decide), if_pos rfl, if_neg (by omega)]
        exact txt_cut t _ p q (by rw [List.length_append]; simp; omega) hq e
    · rw [if_neg hc] at e
      injection e with ea e
      subst ea
      rw [txtU_c _ hc, if_neg (by omega)]
      exact txt_cut t _ p q (by rw [List.length_append]; simp; omega) hq e
theorem txt_inv : ∀ (n : Nat) (o s t r : List UInt8), s.length ≤ n → o.length ≤ 40 → txtU o s = (0, t, r) → ∃ u, t = o ++ u ∧ s = escF u ++ 0 :: 1 :: r ∧ t.length ≤ 40
  | n, o, [], t, r, _, _, h => by
    injection h with h _
    cases h
  | 0, o, c :: s, t, r, hn, _, h => by simp at hn
  | n + 1, o, c :: s, t, r, hn, ho, h => by
    rw [List.length_cons] at hn
    by_cases hc : c = 0
    · subst hc
      cases s with
      | nil =>
        injection h with h _
        cases h
      | cons d s =>
        rw [List.length_cons] at hn
        rw [txtU_z] at h
        by_cases h1 : d = 1
        · subst h1
          rw [if_pos rfl] at h
          injection h with _ h
          injection h with h2 h3
          subst h2 h3
          exact ⟨[], by simp, rfl, ho⟩
        rw [if_neg h1] at h
        by_cases h5 : d = 255
        · subst h5
          rw [if_pos rfl] at h
          by_cases h4 : o.length = 40
          · rw [if_pos h4] at h
            injection h with h _
            cases h
          · rw [if_neg h4] at h
            obtain ⟨u, e1, e2, e3⟩ := txt_inv n (o ++ [0]) s t r (by omega) (by rw [List.length_append]; simp; omega) h
            refine ⟨0 :: u, by rw [e1, List.append_assoc]; rfl, ?_, e3⟩
            rw [e2]
            rfl
        · rw [if_neg h5] at h
          injection h with h _
          cases h
    · rw [txtU_c _ hc] at h
      by_cases h4 : o.length = 40
      · rw [if_pos h4] at h
        injection h with h _
        cases h
      · rw [if_neg h4] at h
        obtain ⟨u, e1, e2, e3⟩ := txt_inv n (o ++ [c]) s t r (by omega) (by rw [List.length_append]; simp; omega) h
        refine ⟨c :: u, by rw [e1, List.append_assoc]; rfl, ?_, e3⟩
        have e : escF (c :: u) = escB c ++ escF u := List.flatMap_cons ..
        rw [e2, e]
        unfold escB
        rw [if_neg hc]
        rfl
end Go.Proofs.YtclhmdobhlalmaaDoor
