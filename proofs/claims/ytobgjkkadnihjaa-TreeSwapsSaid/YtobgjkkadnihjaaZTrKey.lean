/-
  Keys in order, as plain laws. No condition.
-/
import Derived.Test.YtobgjkkadnihjaaZTrIt
namespace Go.Proofs.Ytobgjkkadnihjaa
set_option linter.unusedSimpArgs false
set_option linter.unusedVariables false

theorem kb_irr : ∀ x : List UInt8, Op.bytesLess x x = false
  | [] => rfl
  | a :: x => by simp [Op.bytesLess, kb_irr x]
theorem kb_tri : ∀ x y : List UInt8, Op.bytesLess x y = false → Op.bytesLess y x = false → x = y
  | [], [], _, _ => rfl
  | [], b :: y, h, _ => by simp [Op.bytesLess] at h
  | a :: x, [], _, h => by simp [Op.bytesLess] at h
  | a :: x, b :: y, h1, h2 => by
    simp only [Op.bytesLess, Bool.or_eq_false_iff, decide_eq_false_iff_not, Bool.and_eq_false_iff, beq_eq_false_iff_ne] at h1 h2
    have hab : a = b := by
      apply UInt8.toNat_inj.1
      have e1 := h1.1
      have e2 := h2.1
      rw [UInt8.lt_iff_toNat_lt] at e1 e2
      omega
    subst hab
    rw [kb_tri x y (by rcases h1.2 with h | h; exact absurd rfl h; exact h) (by rcases h2.2 with h | h; exact absurd rfl h; exact h)]
theorem kb_trans : ∀ x y z : List UInt8, Op.bytesLess x y = true → Op.bytesLess y z = true → Op.bytesLess x z = true
  | _, [], _, h, _ => by simp [Op.bytesLess] at h
  | _, b :: y, [], _, h => by simp [Op.bytesLess] at h
  | [], b :: y, c :: z, _, _ => rfl
  | a :: x, b :: y, c :: z, h1, h2 => by
    simp only [Op.bytesLess, Bool.or_eq_true, decide_eq_true_eq, Bool.and_eq_true, beq_iff_eq] at h1 h2 ⊢
    rcases h1 with h1 | ⟨rfl, h1⟩
    · rcases h2 with h2 | ⟨rfl, h2⟩
      · left
        rw [UInt8.lt_iff_toNat_lt] at *
        omega
      · exact .inl h1
    · rcases h2 with h2 | ⟨rfl, h2⟩
      · exact .inl h2
      · exact .inr ⟨rfl, kb_trans x y z h1 h2⟩
theorem key_eq {x y : ByteArray} (h : x.toList = y.toList) : x = y := by
  rw [ByteArray.toList_eq, ByteArray.toList_eq] at h
  exact ByteArray.ext (Array.toList_inj.1 h)
theorem lt_irr (x : ByteArray) : ltB x x = false := kb_irr _
theorem lt_trans {x y z : ByteArray} (h1 : ltB x y = true) (h2 : ltB y z = true) : ltB x z = true := kb_trans _ _ _ h1 h2
theorem lt_asym {x y : ByteArray} (h : ltB x y = true) : ltB y x = false := by
  cases h2 : ltB y x with
  | false => rfl
  | true => have := lt_trans h h2; rw [lt_irr] at this; cases this
theorem lt_ne {x y : ByteArray} (h : ltB x y = true) : x ≠ y := fun e => by rw [e, lt_irr] at h; cases h
/-- Less, the same, or more. -/
theorem cmp_cases (x y : ByteArray) : (ltB x y = true ∧ cmpB x y = -1) ∨ (x = y ∧ cmpB x y = 0) ∨ (ltB y x = true ∧ cmpB x y = 1) := by
  cases h : ltB x y with
  | true => exact .inl ⟨rfl, by unfold cmpB; rw [if_pos h]⟩
  | false =>
    right
    by_cases he : x.toList = y.toList
    · exact .inl ⟨key_eq he, by unfold cmpB; rw [if_neg (by rw [h]; decide), if_neg (by rw [h, he]; simp)]⟩
    · refine .inr ⟨?_, by unfold cmpB; rw [if_neg (by rw [h]; decide), if_pos (by rw [h]; simp [he])]⟩
      cases h2 : ltB y x with
      | true => rfl
      | false => exact absurd (kb_tri _ _ h h2) he
theorem cmp_of_lt {x y : ByteArray} (h : ltB x y = true) : cmpB x y = -1 := by unfold cmpB; rw [if_pos h]
theorem cmp_self (x : ByteArray) : cmpB x x = 0 := by
  rcases cmp_cases x x with ⟨h, _⟩ | ⟨_, h⟩ | ⟨h, _⟩
  · rw [lt_irr] at h; cases h
  · exact h
  · rw [lt_irr] at h; cases h
theorem cmp_of_gt {x y : ByteArray} (h : ltB y x = true) : cmpB x y = 1 := by
  rcases cmp_cases x y with ⟨h2, _⟩ | ⟨rfl, _⟩ | ⟨_, h2⟩
  · rw [lt_asym h2] at h; cases h
  · rw [lt_irr] at h; cases h
  · exact h2
abbrev Asc (l : List (ByteArray × Int)) : Prop := l.Pairwise fun p q => ltB p.1 q.1 = true
def putL (key : ByteArray) (val : Int) : List (ByteArray × Int) → List (ByteArray × Int)
  | [] => [(key, val)]
  | (k, v) :: r => if cmpB key k < 0 then (key, val) :: (k, v) :: r else if cmpB key k = 0 then (k, val) :: r else (k, v) :: putL key val r
def lookL (key : ByteArray) : List (ByteArray × Int) → Option Int
  | [] => none
  | (k, v) :: r => if cmpB key k = 0 then some v else lookL key r
theorem putL_after {key : ByteArray} {val : Int} : ∀ {l r : List (ByteArray × Int)}, (∀ p ∈ l, ltB p.1 key = true) → putL key val (l ++ r) = l ++ putL key val r
  | [], _, _ => rfl
  | (k, v) :: l, r, h => by
    have h1 := cmp_of_gt (h (k, v) (by simp))
    rw [List.cons_append, putL, h1, if_neg (by decide), if_neg (by decide), putL_after fun p hp => h p (by simp [hp]), List.cons_append]
theorem putL_before {key : ByteArray} {val : Int} {k : ByteArray} {v : Int} (hk : ltB key k = true) : ∀ {l r : List (ByteArray × Int)}, putL key val (l ++ (k, v) :: r) = putL key val l ++ (k, v) :: r
  | [], r => by
    show putL key val ((k, v) :: r) = (key, val) :: (k, v) :: r
    rw [putL, cmp_of_lt hk, if_pos (by decide)]
  | (k2, v2) :: l, r => by
    rw [List.cons_append, putL, putL]
    split
    · rfl
    · split
      · rfl
      · rw [putL_before hk]; rfl
theorem putL_here {key : ByteArray} {val v : Int} {l r : List (ByteArray × Int)} (h : ∀ p ∈ l, ltB p.1 key = true) : putL key val (l ++ (key, v) :: r) = l ++ (key, val) :: r := by
  rw [putL_after h, putL, cmp_self, if_neg (by decide), if_pos rfl]
theorem putL_end {key : ByteArray} {val : Int} {l : List (ByteArray × Int)} (h : ∀ p ∈ l, ltB p.1 key = true) : putL key val l = l ++ [(key, val)] := by
  have := putL_after (val := val) (r := []) h
  rw [List.append_nil] at this
  exact this
theorem lookL_after {key : ByteArray} : ∀ {l r : List (ByteArray × Int)}, (∀ p ∈ l, p.1 ≠ key) → lookL key (l ++ r) = lookL key r
  | [], _, _ => rfl
  | (k, v) :: l, r, h => by
    rw [List.cons_append, lookL, if_neg, lookL_after fun p hp => h p (by simp [hp])]
    intro h0
    rcases cmp_cases key k with ⟨_, h2⟩ | ⟨h2, _⟩ | ⟨_, h2⟩
    · rw [h2] at h0; cases h0
    · exact h (k, v) (by simp) h2.symm
    · rw [h2] at h0; cases h0
theorem lookL_none {key : ByteArray} {l : List (ByteArray × Int)} (h : ∀ p ∈ l, p.1 ≠ key) : lookL key l = none := by
  have := lookL_after (r := []) h
  rw [List.append_nil] at this
  exact this
theorem lookL_before {key : ByteArray} : ∀ {l r : List (ByteArray × Int)}, (∀ p ∈ r, p.1 ≠ key) → lookL key (l ++ r) = lookL key l
  | [], r, h => lookL_none h
  | (k, v) :: l, r, h => by rw [List.cons_append, lookL, lookL, lookL_before h]
theorem lookL_some {key : ByteArray} {v : Int} : ∀ {l : List (ByteArray × Int)}, lookL key l = some v → (key, v) ∈ l
  | [], h => by cases h
  | (k, w) :: l, h => by
    rw [lookL] at h
    rcases cmp_cases key k with ⟨_, h2⟩ | ⟨rfl, h2⟩ | ⟨_, h2⟩
    · rw [h2, if_neg (by decide)] at h; exact List.mem_cons_of_mem _ (lookL_some h)
    · rw [h2, if_pos rfl] at h; injection h with h; rw [h]; exact List.mem_cons_self
    · rw [h2, if_neg (by decide)] at h; exact List.mem_cons_of_mem _ (lookL_some h)
theorem lookL_no {key : ByteArray} : ∀ {l : List (ByteArray × Int)}, lookL key l = none → ∀ p ∈ l, p.1 ≠ key
  | [], _, p, hp => by cases hp
  | (k, w) :: l, h, p, hp => by
    rw [lookL] at h
    split at h
    · cases h
    · rename_i h0
      rcases List.mem_cons.1 hp with rfl | hp
      · intro e
        have e : k = key := e
        rw [e, cmp_self] at h0
        exact h0 rfl
      · exact lookL_no h p hp
theorem putL_mem {key : ByteArray} {val : Int} : ∀ {l : List (ByteArray × Int)} {p : ByteArray × Int}, p ∈ putL key val l → p = (key, val) ∨ p ∈ l
  | [], p, h => .inl (List.mem_singleton.1 h)
  | (k, v) :: l, p, h => by
    rw [putL] at h
    split at h
    · rcases List.mem_cons.1 h with h | h
      · exact .inl h
      · exact .inr h
    · rename_i h0
      split at h
      · rename_i h1
        rcases List.mem_cons.1 h with h | h
        · left
          rcases cmp_cases key k with ⟨_, h2⟩ | ⟨rfl, h2⟩ | ⟨_, h2⟩
          · rw [h2] at h1; cases h1
          · exact h
          · rw [h2] at h1; cases h1
        · exact .inr (List.mem_cons_of_mem _ h)
      · rcases List.mem_cons.1 h with rfl | h
        · exact .inr List.mem_cons_self
        · rcases putL_mem h with h | h
          · exact .inl h
          · exact .inr (List.mem_cons_of_mem _ h)
theorem putL_asc {key : ByteArray} {val : Int} : ∀ {l : List (ByteArray × Int)}, Asc l → Asc (putL key val l)
  | [], _ => List.pairwise_singleton _ _
  | (k, v) :: l, h => by
    obtain ⟨h1, h2⟩ := List.pairwise_cons.1 h
    rw [putL]
    rcases cmp_cases key k with ⟨h3, h4⟩ | ⟨rfl, h4⟩ | ⟨h3, h4⟩
    · rw [h4, if_pos (by decide)]
      refine List.pairwise_cons.2 ⟨fun q hq => ?_, h⟩
      rcases List.mem_cons.1 hq with rfl | hq
      · exact h3
      · exact lt_trans h3 (h1 q hq)
    · rw [h4, if_neg (by decide), if_pos rfl]
      exact List.pairwise_cons.2 ⟨h1, h2⟩
    · rw [h4, if_neg (by decide), if_neg (by decide)]
      refine List.pairwise_cons.2 ⟨fun q hq => ?_, putL_asc h2⟩
      rcases putL_mem hq with rfl | hq
      · exact h3
      · exact h1 q hq
theorem putL_look {key : ByteArray} {val : Int} {l : List (ByteArray × Int)} : lookL key (putL key val l) = some val := by
  induction l with
  | nil => rw [putL, lookL, cmp_self, if_pos rfl]
  | cons p l ih =>
    obtain ⟨k, v⟩ := p
    rw [putL]
    split
    · rw [lookL, cmp_self, if_pos rfl]
    · split
      · rename_i h; rw [lookL, if_pos h]
      · rename_i h; rw [lookL, if_neg h, ih]
theorem putL_len {key : ByteArray} {val : Int} : ∀ {l : List (ByteArray × Int)}, Asc l → (putL key val l).length = if (lookL key l).isSome then l.length else l.length + 1
  | [], _ => rfl
  | (k, v) :: l, h => by
    obtain ⟨h1, h2⟩ := List.pairwise_cons.1 h
    rw [putL, lookL]
    rcases cmp_cases key k with ⟨h3, h4⟩ | ⟨rfl, h4⟩ | ⟨h3, h4⟩
    · rw [h4, if_pos (by decide), if_neg (by decide : ¬ (-1 : Int) = 0), lookL_none (fun p hp e => ?_)]
      · rfl
      · have := lt_trans h3 (h1 p hp)
        rw [e, lt_irr] at this
        cases this
    · rw [h4, if_neg (by decide), if_pos rfl, if_pos rfl]; rfl
    · rw [h4, if_neg (by decide), if_neg (by decide), if_neg (by decide : ¬ (1 : Int) = 0), List.length_cons, List.length_cons, putL_len h2]
      split <;> rfl
end Go.Proofs.Ytobgjkkadnihjaa

