/-
  CRC-32C as plain mathematics: it is linear, and a change within four bytes changes it. No program here.
-/
import Derived.Test.YtgakkghlphnoaaaCrc
namespace Go.Proofs.Ytgakkghlphnoaaa
set_option linter.unusedSimpArgs false
set_option linter.unusedVariables false

theorem crcStep_xor (x y : Nat) : crcStep (x ^^^ y) = crcStep x ^^^ crcStep y := by
  unfold crcStep
  have h := @Nat.xor_mod_two_eq_one x y
  rw [Nat.xor_div_two]
  by_cases hx : x % 2 = 1 <;> by_cases hy : y % 2 = 1 <;> simp only [hx, hy, if_true, if_false, reduceIte, not_true, not_false_iff, iff_true, iff_false, true_iff, false_iff] at h ⊢
  · rw [if_neg (by omega)]
    rw [show x / 2 ^^^ 2197175160 ^^^ (y / 2 ^^^ 2197175160) = x / 2 ^^^ (y / 2 ^^^ (2197175160 ^^^ 2197175160)) by ac_rfl, Nat.xor_self, Nat.xor_zero]
  · rw [if_pos (by simp_all)]; ac_rfl
  · rw [if_pos (by simp_all)]; ac_rfl
  · rw [if_neg (by simp_all)]
theorem crcN_xor (j x y : Nat) : crcN j (x ^^^ y) = crcN j x ^^^ crcN j y := by
  induction j with
  | zero => rfl
  | succ j ih => show crcStep _ = crcStep _ ^^^ crcStep _; rw [ih, crcStep_xor]
theorem crcF_xor3 (a b c d : List UInt8) (x y z : Nat) (hab : a.length = d.length) (hb : b.length = d.length) (hc : c.length = d.length)
    (h : ∀ i, i < d.length → d[i]?.getD 0 = a[i]?.getD 0 ^^^ b[i]?.getD 0 ^^^ c[i]?.getD 0) :
    d.foldl crcByte (x ^^^ y ^^^ z) = a.foldl crcByte x ^^^ b.foldl crcByte y ^^^ c.foldl crcByte z := by
  induction d generalizing a b c x y z with
  | nil =>
    obtain rfl := List.eq_nil_of_length_eq_zero hab
    obtain rfl := List.eq_nil_of_length_eq_zero hb
    obtain rfl := List.eq_nil_of_length_eq_zero hc
    rfl
  | cons u d ih =>
    obtain ⟨p, a, rfl⟩ := List.exists_cons_of_length_eq_add_one hab
    obtain ⟨q, b, rfl⟩ := List.exists_cons_of_length_eq_add_one hb
    obtain ⟨r, c, rfl⟩ := List.exists_cons_of_length_eq_add_one hc
    have h0 := h 0 (by simp)
    simp only [List.length_cons, Nat.zero_lt_succ, List.getElem?_cons_zero, Option.getD_some] at h0
    simp only [List.foldl_cons]
    rw [← ih a b c (crcByte x p) (crcByte y q) (crcByte z r) (by simpa using hab) (by simpa using hb) (by simpa using hc) (fun i hi => by have := h (i + 1) (by simpa using hi); simpa using this)]
    congr 1
    unfold crcByte
    rw [← crcN_xor, ← crcN_xor, h0, UInt8.toNat_xor, UInt8.toNat_xor]
    congr 1
    ac_rfl
theorem crc_xor3 (a b c d : List UInt8) (hab : a.length = d.length) (hb : b.length = d.length) (hc : c.length = d.length)
    (h : ∀ i, i < d.length → d[i]?.getD 0 = a[i]?.getD 0 ^^^ b[i]?.getD 0 ^^^ c[i]?.getD 0) : crcL d = crcL a ^^^ crcL b ^^^ crcL c := by
  have := crcF_xor3 a b c d 4294967295 4294967295 4294967295 hab hb hc h
  rw [Nat.xor_self, Nat.zero_xor] at this
  unfold crcL
  rw [this, show 4294967295 ^^^ List.foldl crcByte 4294967295 a ^^^ (4294967295 ^^^ List.foldl crcByte 4294967295 b) ^^^ (4294967295 ^^^ List.foldl crcByte 4294967295 c) =
    4294967295 ^^^ (4294967295 ^^^ 4294967295) ^^^ (List.foldl crcByte 4294967295 a ^^^ List.foldl crcByte 4294967295 b ^^^ List.foldl crcByte 4294967295 c) by ac_rfl, Nat.xor_self, Nat.xor_zero]
theorem crcStep_zero (z : Nat) (h : z < 4294967296) (e : crcStep z = 0) : z = 0 := by
  unfold crcStep at e
  split at e
  · have h1 : z / 2 = 2197175160 := by
      have := congrArg (· ^^^ 2197175160) e
      simp only [Nat.xor_assoc, Nat.xor_self, Nat.xor_zero, Nat.zero_xor] at this
      exact this
    omega
  · omega
theorem crcN_zero (j z : Nat) (h : z < 4294967296) (e : crcN j z = 0) : z = 0 := by
  induction j with
  | zero => exact e
  | succ j ih => exact ih (crcStep_zero _ (crcN_lt j z h) e)
theorem xor_zero_eq {x y : Nat} (h : x ^^^ y = 0) : x = y := by
  have := congrArg (· ^^^ y) h
  simpa [Nat.xor_assoc] using this
theorem crcN_inj (j x y : Nat) (hx : x < 4294967296) (hy : y < 4294967296) (e : crcN j x = crcN j y) : x = y := by
  apply xor_zero_eq
  apply crcN_zero j _ (Nat.xor_lt_two_pow (n := 32) hx hy)
  rw [crcN_xor, e, Nat.xor_self]
theorem crcN_shift (j z : Nat) : crcN j (z * 2 ^ j) = z := by
  induction j generalizing z with
  | zero => simp [crcN]
  | succ j ih =>
    have e : z * 2 ^ (j + 1) = (z * 2) * 2 ^ j := by rw [Nat.pow_succ, Nat.mul_comm (2 ^ j), Nat.mul_assoc]
    show crcStep (crcN j (z * 2 ^ (j + 1))) = z
    rw [e, ih]
    unfold crcStep
    rw [if_neg (by omega)]
    omega
theorem crcF_xor2 (p q : List UInt8) (s t : Nat) (h : p.length = q.length) : p.foldl crcByte s ^^^ q.foldl crcByte t = (List.zipWith (· ^^^ ·) p q).foldl crcByte (s ^^^ t) := by
  induction p generalizing q s t with
  | nil =>
    obtain rfl := List.eq_nil_of_length_eq_zero h.symm
    rfl
  | cons u p ih =>
    obtain ⟨v, q, rfl⟩ := List.exists_cons_of_length_eq_add_one h.symm
    simp only [List.foldl_cons, List.zipWith_cons_cons]
    rw [ih q _ _ (by simpa using h)]
    congr 1
    unfold crcByte
    rw [← crcN_xor, UInt8.toNat_xor]
    congr 1
    ac_rfl
theorem crcF_zero (x : List UInt8) (s : Nat) (hs : s < 4294967296) (hm : x.length ≤ 4) (h : x.foldl crcByte s = 0) : s < 256 ^ x.length ∧ (s = 0 → ∀ u ∈ x, u = 0) := by
  induction x generalizing s with
  | nil =>
    simp only [List.foldl_nil] at h
    subst h
    simp
  | cons u x ih =>
    simp only [List.foldl_cons] at h
    simp only [List.length_cons] at hm ⊢
    have hu : u.toNat < 256 := u.toNat_lt
    have hxl : s ^^^ u.toNat < 4294967296 := Nat.xor_lt_two_pow (n := 32) hs (by omega)
    obtain ⟨h1, h2⟩ := ih (crcByte s u) (crcByte_lt s u hs) (by omega) h
    have hp : 256 ^ x.length ≤ 256 ^ 3 := Nat.pow_le_pow_right (by omega) (by omega)
    have e : s ^^^ u.toNat = crcByte s u * 2 ^ 8 := by
      refine crcN_inj 8 _ _ hxl (by omega) ?_
      rw [crcN_shift]; rfl
    have hs2 : s = crcByte s u * 2 ^ 8 ^^^ u.toNat := by
      have := congrArg (· ^^^ u.toNat) e
      simpa [Nat.xor_assoc] using this
    constructor
    · rw [hs2]
      have hq : (256 : Nat) ^ (x.length + 1) = 2 ^ (8 * (x.length + 1)) := by rw [Nat.pow_mul]
      rw [hq]
      refine Nat.xor_lt_two_pow ?_ (Nat.lt_of_lt_of_le hu ?_)
      · rw [← hq, Nat.pow_succ]; omega
      · rw [← hq, Nat.pow_succ]; have : 0 < 256 ^ x.length := Nat.pow_pos (by omega); omega
    · intro h0
      rw [h0, Nat.zero_xor] at e
      rw [h0] at h2
      have hz : crcByte 0 u = 0 := by omega
      have hu0 : u = 0 := by
        apply UInt8.toNat_inj.1
        rw [e, hz]; rfl
      intro v hv
      rcases List.mem_cons.1 hv with rfl | hv
      · exact hu0
      · exact h2 hz v hv
theorem crcF_inj (x : List UInt8) (s t : Nat) (hs : s < 4294967296) (ht : t < 4294967296) (h : x.foldl crcByte s = x.foldl crcByte t) : s = t := by
  induction x generalizing s t with
  | nil => exact h
  | cons u x ih =>
    have h1 := ih _ _ (crcByte_lt s u hs) (crcByte_lt t u ht) h
    have hu : u.toNat < 256 := u.toNat_lt
    have h2 := crcN_inj 8 _ _ (Nat.xor_lt_two_pow (n := 32) hs (by omega)) (Nat.xor_lt_two_pow (n := 32) ht (by omega)) h1
    have := congrArg (· ^^^ u.toNat) h2
    simpa [Nat.xor_assoc] using this
/-- What is changed within four bytes is told. -/
theorem crc_burst (b c : List UInt8) (k : Nat) (hl : c.length = b.length) (h : ∀ i, i < k ∨ k + 4 ≤ i → b[i]? = c[i]?) : crcL b = crcL c ↔ b = c := by
  constructor
  · intro e
    have e1 : b.foldl crcByte 4294967295 = c.foldl crcByte 4294967295 := by
      unfold crcL at e
      have := congrArg (4294967295 ^^^ ·) e
      simpa [← Nat.xor_assoc] using this
    have ht : b.take k = c.take k := by
      apply List.ext_getElem?
      intro i
      rw [List.getElem?_take, List.getElem?_take]
      split
      · exact h i (.inl ‹_›)
      · rfl
    have hd : b.drop (k + 4) = c.drop (k + 4) := by
      apply List.ext_getElem?
      intro i
      rw [List.getElem?_drop, List.getElem?_drop]
      exact h _ (.inr (by omega))
    have hb : b = b.take k ++ ((b.drop k).take 4 ++ b.drop (k + 4)) := by
      conv => lhs; rw [← List.take_append_drop k b, ← List.take_append_drop 4 (b.drop k), List.drop_drop]
    have hc : c = c.take k ++ ((c.drop k).take 4 ++ c.drop (k + 4)) := by
      conv => lhs; rw [← List.take_append_drop k c, ← List.take_append_drop 4 (c.drop k), List.drop_drop]
    rw [hb, hc, List.foldl_append, List.foldl_append, List.foldl_append, List.foldl_append, ← ht, ← hd] at e1
    have hs := crcF_lt (b.take k) 4294967295 (by omega)
    have e2 := crcF_inj _ _ _ (crcF_lt _ _ hs) (crcF_lt _ _ hs) e1
    have hlen : ((b.drop k).take 4).length = ((c.drop k).take 4).length := by simp [hl]
    have e3 := crcF_xor2 ((b.drop k).take 4) ((c.drop k).take 4) ((b.take k).foldl crcByte 4294967295) ((b.take k).foldl crcByte 4294967295) hlen
    rw [e2, Nat.xor_self, Nat.xor_self] at e3
    have hz := (crcF_zero _ 0 (by omega) (by simp; omega) e3.symm).2 rfl
    have hm : (b.drop k).take 4 = (c.drop k).take 4 := by
      apply List.ext_getElem hlen
      intro i h1 h2
      have := hz (((b.drop k).take 4)[i] ^^^ ((c.drop k).take 4)[i]) (by
        rw [List.mem_iff_getElem]
        exact ⟨i, by simp [List.length_zipWith] at *; omega, by simp [List.getElem_zipWith]⟩)
      have h3 := congrArg (· ^^^ ((c.drop k).take 4)[i]) this
      simpa [UInt8.xor_assoc] using h3
    rw [hb, hc, ← ht, hm, ← hd]
  · rintro rfl; rfl
theorem crc_1_2 : crcL [1] ≠ crcL [2] := by decide +kernel
end Go.Proofs.Ytgakkghlphnoaaa
