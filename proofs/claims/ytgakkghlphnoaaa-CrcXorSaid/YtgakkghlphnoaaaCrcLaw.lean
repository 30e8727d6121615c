/-
  CRC-32C as plain mathematics: it is linear, and a change within four bytes changes it. No program here.
-/
import Derived.Test.YtgakkghlphnoaaaCrc
namespace Go.Proofs.Ytgakkghlphnoaaa
set_option linter.unusedSimpArgs false
set_option linter.unusedVariables false

theorem crcStep_xor (x y : Nat) : crcStep (x ^^^ y) = crcStep x ^^^ crcStep y := by
  unfold crcStep
  have h := @Nat.xor_mod_two_eq_one x y
  rw [Nat.xor_div_two]
  by_cases hx : x % 2 = 1 <;> by_cases hy : y % 2 = 1 <;> simp only [hx, hy, if_true, if_false, reduceIte, not_true, not_false_iff, iff_true, iff_false, true_iff, false_iff] at h ⊢
  · rw [if_neg (by omega)]
    rw [show x / 2 ^^^ 2197175160 ^^^ (y / 2 ^^^ 2197175160) = x / 2 ^^^ (y / 2 ^^^ (2197175160 ^^^ 2197175160)) by ac_rfl, Nat.xor_self, Nat.xor_zero]
  · rw [if_pos (by simp_all)]; ac_rfl
  · rw [if_pos (by simp_all)]; ac_rfl
  · rw [if_neg (by simp_all)]
theorem crcN_xor (j x y : Nat) : crcN j (x ^^^ y) = crcN j x ^^^ crcN j y := by
  induction j with
  | zero => rfl
  | succ j ih => show crcStep _ = crcStep _ ^^^ crcStep _; rw [ih, crcStep_xor]
theorem crcF_xor3 (a b c d : List UInt8) (x y z : Nat) (hab : a.length = d.length) (hb : b.length = d.length) (hc : c.length = d.length)
    (h : ∀ i, i < d.length → d[i]?.getD 0 = a[i]?.getD 0 ^^^ b[i]?.getD 0 ^^^ c[i]?.getD 0) :
    d.foldl crcByte (x ^^^ y ^^^ z) = a.foldl crcByte x ^^^ b.foldl crcByte y ^^^ c.foldl crcByte z := by
  induction d generalizing a b c x y z with
  | nil =>
    obtain rfl := List.eq_nil_of_length_eq_zero hab
    obtain rfl := List.eq_nil_of_length_eq_zero hb
    obtain rfl := List.eq_nil_of_length_eq_zero hc
    rfl
  | cons u d ih =>
    obtain ⟨p, a, rfl⟩ := List.exists_cons_of_length_eq_add_one hab
    obtain ⟨q, b, rfl⟩ := List.exists_cons_of_length_eq_add_one hb
    obtain ⟨r, c, rfl⟩ := List.exists_cons_of_length_eq_add_one hc
    have h0 := h 0 (by simp)
    simp only [List.length_cons, Nat.zero_lt_succ, List.getElem?_cons_zero, Option.getD_some] at h0
    simp only [List.foldl_cons]
    rw [← ih a b c (crcByte x p) (crcByte y q) (crcByte z r) (by simpa using hab) (by simpa using hb) (by simpa using hc) (fun i hi => by have := h (i + 1) (by simpa using hi); simpa using this)]
    congr 1
    unfold crcByte
    rw [← crcN_xor, ← crcN_xor, h0, UInt8.toNat_xor, UInt8.toNat_xor]
    congr 1
    ac_rfl
theorem crc_xor3 (a b c d : List UInt8) (hab : a.length = d.length) (hb : b.length = d.length) (hc : c.length = d.length)
    (h : ∀ i, i < d.length → d[i]?.getD 0 = a[i]?.getD 0 ^^^ b[i]?.getD 0 ^^^ c[i]?.getD 0) : crcL d = crcL a ^^^ crcL b ^^^ crcL c := by
  have := crcF_xor3 a b c d 4294967295 4294967295 4294967295 hab hb hc h
  rw [Nat.xor_self, Nat.zero_xor] at this
  unfold crcL
  rw [this, show 4294967295 ^^^ List.foldl crcByte 4294967295 a ^^^ (4294967295 ^^^ List.foldl crcByte 4294967295 b) ^^^ (4294967295 ^^^ List.foldl crcByte 4294967295 c) =
    4294967295 ^^^ (4294967295 ^^^ 4294967295) ^^^ (List.foldl crcByte 4294967295 a ^^^ List.foldl crcByte 4294967295 b ^^^ List.foldl crcByte 4294967295 c) by ac_rfl, Nat.xor_self, Nat.xor_zero]
theorem crc_1_2 : crcL [1] ≠ crcL [2] := by decide +kernel
end Go.Proofs.Ytgakkghlphnoaaa
