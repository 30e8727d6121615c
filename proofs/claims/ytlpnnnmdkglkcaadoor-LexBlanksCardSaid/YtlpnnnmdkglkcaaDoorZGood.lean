/-
  Values that may be, and their order. Plain laws.
-/
import Derived.Test.YtlpnnnmdkglkcaaDoorZOrdV
namespace Go.Proofs.YtlpnnnmdkglkcaaDoor
set_option linter.unusedSimpArgs false
set_option linter.unusedVariables false

/-- A value that may be, of numbers that are. -/
inductive Gd : Vl → Prop where
  | null : Gd ⟨0, 0, 0, .empty⟩
  | bool (n : Int) (h : n = 0 ∨ n = 1) : Gd ⟨1, n, 0, .empty⟩
  | int (n : Int) : Gd ⟨2, n, 0, .empty⟩
  | real (b : Nat) (h1 : b < 18446744073709551616) (h2 : finF b) (h3 : b ≠ 9223372036854775808) : Gd ⟨3, 0, b, .empty⟩
  | text (t : ByteArray) (h1 : t.size ≤ 40) (h2 : Lib.validD t.data.toList = true) : Gd ⟨4, 0, 0, t⟩
theorem Gd.size {v : Vl} (h : Gd v) : v.t.size ≤ 40 := by
  cases h with
  | text t h1 h2 => exact h1
  | _ => exact Nat.zero_le _
theorem emp_eq : (ByteArray.empty.toList == (⟨#[]⟩ : ByteArray).toList) = true := beq_self_eq_true _
theorem fltV_eql {a b : Nat} (ha : finF a) (hb : finF b) : fltV .eql a b = decide (keyF a = keyF b) := by
  unfold fltV
  rw [order_key ha hb]
  rcases Int.lt_trichotomy (keyF a) (keyF b) with h | h | h
  · simp [compare, compareOfLessAndEq, h, show ¬ keyF a = keyF b by omega]
  · simp [compare, compareOfLessAndEq, h]
  · simp [compare, compareOfLessAndEq, show ¬ keyF a < keyF b by omega, show ¬ keyF a = keyF b by omega]
theorem Gd.chk {v : Vl} (h : Gd v) : chkV v = 0 := by
  cases h with
  | null =>
    have e3 : Vl.b3 ⟨0, 0, 0, .empty⟩ = false := by unfold Vl.b3; simp [emp_eq]
    unfold chkV
    rw [if_neg (by decide), if_neg (by decide), if_neg (by rw [e3]; decide), if_neg (by decide), if_neg (by decide), if_neg (by decide)]
  | bool n hn =>
    have e3 : Vl.b3 ⟨1, n, 0, .empty⟩ = false := by unfold Vl.b3; simp [emp_eq]
    have e4 : Vl.b4 ⟨1, n, 0, .empty⟩ = false := by unfold Vl.b4; rcases hn with rfl | rfl <;> rfl
    unfold chkV
    rw [if_neg (by unfold Vl.b1; simp), if_neg (by unfold Vl.b2; simp), if_neg (by rw [e3]; decide), if_pos (by rfl), if_neg (by rw [e4]; decide)]
  | int n =>
    have e3 : Vl.b3 ⟨2, n, 0, .empty⟩ = false := by unfold Vl.b3; simp [emp_eq]
    unfold chkV
    rw [if_neg (by unfold Vl.b1; simp), if_neg (by unfold Vl.b2; simp), if_neg (by rw [e3]; decide), if_neg (by simp), if_neg (by simp), if_neg (by simp)]
  | real b h1 h2 h3 =>
    have e3 : Vl.b3 ⟨3, 0, b, .empty⟩ = false := by unfold Vl.b3; simp [emp_eq]
    have e5 : Vl.b5 ⟨3, 0, b, .empty⟩ = false := by
      unfold Vl.b5
      dsimp only
      rw [fltV_self h2, Bool.false_or]
      cases he : fltV .eql b 0 with
      | false => rfl
      | true =>
        rw [fltV_eql h2 (by unfold finF rung; omega)] at he
        have := keyF_inj (b := 0) h1 (by omega) h3 (by omega) (of_decide_eq_true he)
        subst this
        rfl
    unfold chkV
    rw [if_neg (by unfold Vl.b1; simp), if_neg (by unfold Vl.b2; simp), if_neg (by rw [e3]; decide), if_neg (by simp), if_pos (by rfl), if_neg (by rw [e5]; decide)]
  | text t h1 h2 =>
    have e3 : Vl.b3 ⟨4, 0, 0, t⟩ = false := by unfold Vl.b3; simp
    have e6 : Vl.b6 ⟨4, 0, 0, t⟩ = false := by unfold Vl.b6; rw [h2]; rfl
    unfold chkV
    rw [if_neg (by unfold Vl.b1; simp), if_neg (by unfold Vl.b2; simp; omega), if_neg (by rw [e3]; decide), if_neg (by simp), if_neg (by simp), if_pos (by rfl), if_neg (by rw [e6]; decide)]
theorem bl_irr : ∀ x : List UInt8, Op.bytesLess x x = false
  | [] => rfl
  | a :: x => by simp [Op.bytesLess, bl_irr x]
theorem bl_tri : ∀ x y : List UInt8, Op.bytesLess x y = false → Op.bytesLess y x = false → x = y
  | [], [], _, _ => rfl
  | [], b :: y, h, _ => by simp [Op.bytesLess] at h
  | a :: x, [], _, h => by simp [Op.bytesLess] at h
  | a :: x, b :: y, h1, h2 => by
    simp only [Op.bytesLess, Bool.or_eq_false_iff, decide_eq_false_iff_not, Bool.and_eq_false_iff, beq_eq_false_iff_ne] at h1 h2
    have hab : a = b := by
      apply UInt8.toNat_inj.1
      have e1 := h1.1
      have e2 := h2.1
      rw [UInt8.lt_iff_toNat_lt] at e1 e2
      omega
    subst hab
    rw [bl_tri x y (by rcases h1.2 with h | h; exact absurd rfl h; exact h) (by rcases h2.2 with h | h; exact absurd rfl h; exact h)]
theorem bl_trans : ∀ x y z : List UInt8, Op.bytesLess x y = true → Op.bytesLess y z = true → Op.bytesLess x z = true
  | _, [], _, h, _ => by simp [Op.bytesLess] at h
  | _, b :: y, [], _, h => by simp [Op.bytesLess] at h
  | [], b :: y, c :: z, _, _ => rfl
  | a :: x, b :: y, c :: z, h1, h2 => by
    simp only [Op.bytesLess, Bool.or_eq_true, decide_eq_true_eq, Bool.and_eq_true, beq_iff_eq] at h1 h2 ⊢
    rcases h1 with h1 | ⟨rfl, h1⟩
    · rcases h2 with h2 | ⟨rfl, h2⟩
      · left
        rw [UInt8.lt_iff_toNat_lt] at *
        omega
      · exact .inl h1
    · rcases h2 with h2 | ⟨rfl, h2⟩
      · exact .inl h2
      · exact .inr ⟨rfl, bl_trans x y z h1 h2⟩
/-- What decides within a kind. -/
def inn (a b : Vl) : Prop := if a.k = 3 then keyF a.b < keyF b.b else if a.k = 4 then Op.bytesLess a.t.toList b.t.toList = true else a.n < b.n
theorem Gd.fin {v : Vl} (h : Gd v) (hk : v.k = 3) : v.b < 18446744073709551616 ∧ finF v.b ∧ v.b ≠ 9223372036854775808 := by
  cases h with
  | real b h1 h2 h3 => exact ⟨h1, h2, h3⟩
  | null => cases hk
  | bool n h => have hk : (1 : Int) = 3 := hk; omega
  | int n => have hk : (2 : Int) = 3 := hk; omega
  | text t h1 h2 => have hk : (4 : Int) = 3 := hk; omega
theorem less_k {a b : Vl} (hk : a.k ≠ b.k) : lessV a b = decide (a.k < b.k) := by unfold lessV; rw [if_pos (bne_iff_ne.2 hk)]
theorem less_3 {a b : Vl} (hk : a.k = b.k) (h : a.k = 3) : lessV a b = fltV .lss a.b b.b := by unfold lessV; rw [if_neg (by simp [hk]), if_pos (beq_iff_eq.2 h)]
theorem less_4 {a b : Vl} (hk : a.k = b.k) (h : a.k = 4) : lessV a b = Op.bytesLess a.t.toList b.t.toList := by unfold lessV; rw [if_neg (by simp [hk]), if_neg (by rw [h]; decide), if_pos (beq_iff_eq.2 h)]
theorem less_n {a b : Vl} (hk : a.k = b.k) (h : a.k ≠ 3) (h2 : a.k ≠ 4) : lessV a b = decide (a.n < b.n) := by unfold lessV; rw [if_neg (by simp [hk]), if_neg (fun x => h (beq_iff_eq.1 x)), if_neg (fun x => h2 (beq_iff_eq.1 x))]
theorem more_k {a b : Vl} (hk : a.k ≠ b.k) : moreV a b = decide (a.k > b.k) := by unfold moreV; rw [if_pos (bne_iff_ne.2 hk)]
theorem more_3 {a b : Vl} (hk : a.k = b.k) (h : a.k = 3) : moreV a b = fltV .gtr a.b b.b := by unfold moreV; rw [if_neg (by simp [hk]), if_pos (beq_iff_eq.2 h)]
theorem more_4 {a b : Vl} (hk : a.k = b.k) (h : a.k = 4) : moreV a b = !(Op.bytesLess a.t.toList b.t.toList || a.t.toList == b.t.toList) := by unfold moreV; rw [if_neg (by simp [hk]), if_neg (by rw [h]; decide), if_pos (beq_iff_eq.2 h)]
theorem more_n {a b : Vl} (hk : a.k = b.k) (h : a.k ≠ 3) (h2 : a.k ≠ 4) : moreV a b = decide (a.n > b.n) := by unfold moreV; rw [if_neg (by simp [hk]), if_neg (fun x => h (beq_iff_eq.1 x)), if_neg (fun x => h2 (beq_iff_eq.1 x))]
theorem less_iff {a b : Vl} (ha : Gd a) (hb : Gd b) : lessV a b = true ↔ a.k < b.k ∨ (a.k = b.k ∧ inn a b) := by
  by_cases hk : a.k = b.k
  · have hin : inn a b ↔ lessV a b = true := by
      unfold inn
      by_cases h3 : a.k = 3
      · rw [if_pos h3, less_3 hk h3, fltV_lss (ha.fin h3).2.1 (hb.fin (hk ▸ h3)).2.1, decide_eq_true_eq]
      · rw [if_neg h3]
        by_cases h4 : a.k = 4
        · rw [if_pos h4, less_4 hk h4]
        · rw [if_neg h4, less_n hk h3 h4, decide_eq_true_eq]
    rw [hin]
    constructor
    · exact fun h => .inr ⟨hk, h⟩
    · rintro (h | h)
      · omega
      · exact h.2
  · rw [less_k hk, decide_eq_true_eq]
    constructor
    · exact .inl
    · rintro (h | h)
      · exact h
      · exact absurd h.1 hk
theorem more_less {a b : Vl} (ha : Gd a) (hb : Gd b) : moreV a b = lessV b a := by
  by_cases hk : a.k = b.k
  · by_cases h3 : a.k = 3
    · have h3b : b.k = 3 := hk ▸ h3
      rw [more_3 hk h3, less_3 hk.symm h3b, fltV_gtr (ha.fin h3).2.1 (hb.fin h3b).2.1, fltV_lss (hb.fin h3b).2.1 (ha.fin h3).2.1]
    · by_cases h4 : a.k = 4
      · rw [more_4 hk h4, less_4 hk.symm (hk ▸ h4), Bool.eq_iff_iff]
        generalize a.t.toList = x
        generalize b.t.toList = y
        constructor
        · intro h
          simp only [Bool.not_eq_true', Bool.or_eq_false_iff, beq_eq_false_iff_ne] at h
          cases hq : Op.bytesLess y x with
          | true => rfl
          | false => exact absurd (bl_tri x y h.1 hq) h.2
        · intro h
          simp only [Bool.not_eq_true', Bool.or_eq_false_iff, beq_eq_false_iff_ne]
          refine ⟨?_, fun he => ?_⟩
          · cases hq : Op.bytesLess x y with
            | false => rfl
            | true => have := bl_trans x y x hq h; rw [bl_irr] at this; cases this
          · subst he; rw [bl_irr] at h; cases h
      · rw [more_n hk h3 h4, less_n hk.symm (hk ▸ h3) (hk ▸ h4)]
  · rw [more_k hk, less_k (Ne.symm hk)]
theorem inn_trans {a b c : Vl} (h1 : a.k = b.k) (h2 : inn a b) (h3 : inn b c) : inn a c := by
  unfold inn at *
  rw [← h1] at h3
  by_cases k3 : a.k = 3
  · simp only [if_pos k3] at h2 h3 ⊢; omega
  · simp only [if_neg k3] at h2 h3 ⊢
    by_cases k4 : a.k = 4
    · simp only [if_pos k4] at h2 h3 ⊢; exact bl_trans _ _ _ h2 h3
    · simp only [if_neg k4] at h2 h3 ⊢; omega
theorem inn_irr (a : Vl) : ¬ inn a a := by
  unfold inn
  split
  · omega
  · split
    · rw [bl_irr]; decide
    · omega
theorem less_trans {a b c : Vl} (ha : Gd a) (hb : Gd b) (hc : Gd c) (h1 : lessV a b = true) (h2 : lessV b c = true) : lessV a c = true := by
  rw [less_iff ha hb] at h1
  rw [less_iff hb hc] at h2
  rw [less_iff ha hc]
  rcases h1 with h1 | ⟨e1, h1⟩ <;> rcases h2 with h2 | ⟨e2, h2⟩
  · exact .inl (by omega)
  · exact .inl (by omega)
  · exact .inl (by omega)
  · exact .inr ⟨by omega, inn_trans e1 h1 h2⟩
theorem less_irr {a : Vl} (ha : Gd a) : lessV a a = false := by
  cases h : lessV a a with
  | false => rfl
  | true =>
    rcases (less_iff ha ha).1 h with h | h
    · omega
    · exact absurd h.2 (inn_irr a)
theorem ba_eq {x y : ByteArray} (h : x.toList = y.toList) : x = y := by
  have e : ∀ z : ByteArray, z.toList = z.data.toList := fun z => ByteArray.toList_eq z
  rw [e, e] at h
  exact ByteArray.ext (Array.toList_inj.1 h)
theorem less_tri {a b : Vl} (ha : Gd a) (hb : Gd b) (h1 : lessV a b = false) (h2 : lessV b a = false) : a = b := by
  have q1 : ¬ (a.k < b.k ∨ (a.k = b.k ∧ inn a b)) := fun h => by rw [(less_iff ha hb).2 h] at h1; cases h1
  have q2 : ¬ (b.k < a.k ∨ (b.k = a.k ∧ inn b a)) := fun h => by rw [(less_iff hb ha).2 h] at h2; cases h2
  have hk : a.k = b.k := by omega
  have i1 : ¬ inn a b := fun h => q1 (.inr ⟨hk, h⟩)
  have i2 : ¬ inn b a := fun h => q2 (.inr ⟨hk.symm, h⟩)
  have j1 : inn a b = if a.k = 3 then keyF a.b < keyF b.b else if a.k = 4 then Op.bytesLess a.t.toList b.t.toList = true else a.n < b.n := rfl
  have j2 : inn b a = if b.k = 3 then keyF b.b < keyF a.b else if b.k = 4 then Op.bytesLess b.t.toList a.t.toList = true else b.n < a.n := rfl
  rw [j1] at i1
  rw [j2, ← hk] at i2
  by_cases k3 : a.k = 3
  · simp only [if_pos k3] at i1 i2
    obtain ⟨x1, x2, x3⟩ := ha.fin k3
    obtain ⟨y1, y2, y3⟩ := hb.fin (hk ▸ k3)
    have e := keyF_inj x1 y1 x3 y3 (by omega)
    have fa : a = ⟨3, 0, a.b, .empty⟩ := by
      cases ha with
      | real b h1 h2 h3 => rfl
      | null => cases k3
      | bool n h => have k3 : (1 : Int) = 3 := k3; omega
      | int n => have k3 : (2 : Int) = 3 := k3; omega
      | text t h1 h2 => have k3 : (4 : Int) = 3 := k3; omega
    have k3b : b.k = 3 := hk ▸ k3
    have fb : b = ⟨3, 0, b.b, .empty⟩ := by
      cases hb with
      | real b h1 h2 h3 => rfl
      | null => cases k3b
      | bool n h => have k3 : (1 : Int) = 3 := k3b; omega
      | int n => have k3 : (2 : Int) = 3 := k3b; omega
      | text t h1 h2 => have k3 : (4 : Int) = 3 := k3b; omega
    rw [fa, fb, e]
  · simp only [if_neg k3] at i1 i2
    by_cases k4 : a.k = 4
    · simp only [if_pos k4] at i1 i2
      have e := ba_eq (bl_tri _ _ (by simpa using i1) (by simpa using i2))
      have fa : a = ⟨4, 0, 0, a.t⟩ := by
        cases ha with
        | text t h1 h2 => rfl
        | null => cases k4
        | bool n h => have k3 : (1 : Int) = 4 := k4; omega
        | int n => have k3 : (2 : Int) = 4 := k4; omega
        | real b h1 h2 h3 => have k3 : (3 : Int) = 4 := k4; omega
      have k4b : b.k = 4 := hk ▸ k4
      have fb : b = ⟨4, 0, 0, b.t⟩ := by
        cases hb with
        | text t h1 h2 => rfl
        | null => cases k4b
        | bool n h => have k3 : (1 : Int) = 4 := k4b; omega
        | int n => have k3 : (2 : Int) = 4 := k4b; omega
        | real b h1 h2 h3 => have k3 : (3 : Int) = 4 := k4b; omega
      rw [fa, fb, e]
    · simp only [if_neg k4] at i1 i2
      have e : a.n = b.n := by omega
      have f : ∀ v : Vl, Gd v → v.k ≠ 3 → v.k ≠ 4 → v = ⟨v.k, v.n, 0, .empty⟩ := fun v h q3 q4 => by
        cases h with
        | real b h1 h2 h3 => exact absurd rfl q3
        | text t h1 h2 => exact absurd rfl q4
        | _ => rfl
      rw [f a ha k3 k4, f b hb (hk ▸ k3) (hk ▸ k4), e, hk]
end Go.Proofs.YtlpnnnmdkglkcaaDoor

