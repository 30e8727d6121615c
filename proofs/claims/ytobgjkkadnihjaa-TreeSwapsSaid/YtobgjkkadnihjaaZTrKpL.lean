/-
  The tree and the list that is kept beside it, as plain laws. No condition.
-/
import Derived.Test.YtobgjkkadnihjaaZTrDig
namespace Go.Proofs.Ytobgjkkadnihjaa
set_option linter.unusedSimpArgs false
set_option linter.unusedVariables false
open Go.RowKit

/-- Where a key is, or should be. -/
def atL (key : ByteArray) : Pairs → Nat
  | [] => 0
  | (k, _) :: r => if ltB k key = true then atL key r + 1 else 0
theorem atL_le (key : ByteArray) : ∀ l : Pairs, atL key l ≤ l.length
  | [] => Nat.le_refl _
  | (k, v) :: r => by
    have := atL_le key r
    rw [atL, List.length_cons]
    split <;> omega
theorem atL_lt {key : ByteArray} : ∀ {l : Pairs} {j : Nat}, j < atL key l → ∃ p, l[j]? = some p ∧ ltB p.1 key = true
  | [], j, h => by rw [atL] at h; omega
  | (k, v) :: r, j, h => by
    rw [atL] at h
    split at h
    · rename_i hk
      cases j with
      | zero => exact ⟨(k, v), rfl, hk⟩
      | succ j => exact atL_lt (l := r) (by omega)
    · omega
theorem atL_at {key : ByteArray} : ∀ {l : Pairs} {p : ByteArray × Int}, l[atL key l]? = some p → ltB p.1 key = false
  | [], p, h => by simp at h
  | (k, v) :: r, p, h => by
    rw [atL] at h
    split at h
    · exact atL_at (l := r) h
    · rename_i hk
      simp only [List.getElem?_cons_zero, Option.some.injEq] at h
      subst h
      simpa using hk
theorem at_all {key : ByteArray} {val : Int} : ∀ {l : Pairs}, Asc l →
    (∀ v, l[atL key l]? = some (key, v) → lookL key l = some v ∧ putL key val l = l.take (atL key l) ++ (key, val) :: l.drop (atL key l + 1) ∧ cutL key l = l.take (atL key l) ++ l.drop (atL key l + 1)) ∧
    ((∀ p, l[atL key l]? = some p → p.1 ≠ key) → lookL key l = none ∧ putL key val l = l.take (atL key l) ++ (key, val) :: l.drop (atL key l))
  | [], h => ⟨fun v hv => (by simp at hv), fun _ => ⟨rfl, rfl⟩⟩
  | (k, v) :: r, h => by
    obtain ⟨h1, h2⟩ := List.pairwise_cons.1 h
    have hne : ∀ {a b : ByteArray}, ltB a b = true → (a.toList == b.toList) = false := fun h => by
      rw [beq_eq_false_iff_ne]; exact fun e => lt_ne h (key_eq e)
    rcases cmp_cases key k with ⟨h3, h4⟩ | ⟨rfl, h4⟩ | ⟨h3, h4⟩
    · have e0 : atL key ((k, v) :: r) = 0 := by rw [atL, if_neg (by rw [lt_asym h3]; decide)]
      rw [e0]
      refine ⟨fun v2 hv => ?_, fun _ => ⟨?_, ?_⟩⟩
      · simp only [List.getElem?_cons_zero, Option.some.injEq, Prod.mk.injEq] at hv
        exact absurd hv.1.symm (lt_ne h3)
      · refine lookL_none fun p hp e => ?_
        rcases List.mem_cons.1 hp with rfl | hp
        · exact lt_ne h3 e.symm
        · exact lt_ne (lt_trans h3 (h1 p hp)) e.symm
      · rw [putL, h4, if_pos (by decide)]; rfl
    · have e0 : atL key ((key, v) :: r) = 0 := by rw [atL, if_neg (by rw [lt_irr]; decide)]
      rw [e0]
      refine ⟨fun v2 hv => ?_, fun hp => absurd rfl (hp (key, v) rfl)⟩
      simp only [List.getElem?_cons_zero, Option.some.injEq, Prod.mk.injEq] at hv
      obtain ⟨_, rfl⟩ := hv
      refine ⟨by rw [lookL, h4, if_pos rfl], by rw [putL, h4, if_neg (by decide), if_pos rfl]; rfl, ?_⟩
      unfold cutL
      rw [List.filter_cons, if_neg (by simp)]
      show r.filter _ = [] ++ r
      rw [List.nil_append, List.filter_eq_self]
      intro p hp
      have := hne (h1 p hp)
      have h5 : (p.1.toList == key.toList) = false := by rw [beq_eq_false_iff_ne] at this ⊢; exact fun e => this e.symm
      rw [h5]; rfl
    · have e0 : atL key ((k, v) :: r) = atL key r + 1 := by rw [atL, if_pos h3]
      obtain ⟨i1, i2⟩ := at_all (key := key) (val := val) h2
      have eL : lookL key ((k, v) :: r) = lookL key r := by rw [lookL, h4, if_neg (by decide)]
      have eP : putL key val ((k, v) :: r) = (k, v) :: putL key val r := by rw [putL, h4, if_neg (by decide), if_neg (by decide)]
      have eC : cutL key ((k, v) :: r) = (k, v) :: cutL key r := by
        unfold cutL
        rw [List.filter_cons, if_pos (by simp [hne h3])]
      rw [e0, eL, eP, eC]
      refine ⟨fun v2 hv => ?_, fun hp => ?_⟩
      · obtain ⟨j1, j2, j3⟩ := i1 v2 (by simpa using hv)
        refine ⟨j1, by rw [j2]; rfl, by rw [j3]; rfl⟩
      · obtain ⟨j1, j2⟩ := i2 (fun p h => hp p (by simpa using h))
        exact ⟨j1, by rw [j2]; rfl⟩
def nU (r : Raw) : Nat := (r.a % 5).toNat
def nV (r : Raw) : Nat := (r.b % 6).toNat
def nK (r : Raw) : Nat := (r.kind % 4).toNat
def keyR (r : Raw) : ByteArray := two 97 97 (nU r) (nV r)
def stepO (o : Option (Nat × Tn)) (r : Raw) : Option (Nat × Tn) := if nK r = 0 then (if (lookL (keyR r) (itemsO o)).isSome = true then cutO (keyR r) o else o) else growO (keyR r) r.a o
def grownO (l : List Raw) : Option (Nat × Tn) := l.foldl stepO none
structure GOk (o : Option (Nat × Tn)) (n : Nat) : Prop where
  good : Good o
  few : (itemsO o).length ≤ n
  keys : ∀ p ∈ itemsO o, ∃ u v, u < 5 ∧ v < 6 ∧ p.1 = two 97 97 u v
theorem nU_lt (r : Raw) : nU r < 5 := by unfold nU; omega
theorem nV_lt (r : Raw) : nV r < 6 := by unfold nV; omega
theorem gok_step {o : Option (Nat × Tn)} {n : Nat} (h : GOk o n) (hn : n < 100) (r : Raw) : GOk (stepO o r) (n + 1) := by
  have hf := h.few
  unfold stepO
  split
  · split
    · obtain ⟨h1, h2⟩ := cutO_items h.good (keyR r)
      refine ⟨good_cut h.good _, ?_, fun p hp => ?_⟩
      · rw [h2]; exact Nat.le_trans (List.length_filter_le _ _) (by omega)
      · rw [h2] at hp; exact h.keys p (List.mem_filter.1 hp).1
    · exact ⟨h.good, by omega, h.keys⟩
  · have hi := growO_items (keyR r) r.a o h.good.sh h.good.asc
    refine ⟨good_put h.good _ (Nat.le_of_ble_eq_true rfl) (.inr (by omega)), ?_, fun p hp => ?_⟩
    · rw [hi, putL_len h.good.asc]; split <;> omega
    · rw [hi] at hp
      rcases putL_mem hp with rfl | hp
      · exact ⟨_, _, nU_lt r, nV_lt r, rfl⟩
      · exact h.keys p hp
theorem gok_take (l : List Raw) : ∀ k, k ≤ 60 → GOk (grownO (l.take k)) k
  | 0, _ => by
    rw [List.take_zero]
    exact ⟨good_nil, Nat.le_refl _, fun p hp => (by cases hp)⟩
  | k + 1, h => by
    have ih := gok_take l k (by omega)
    rw [List.take_add_one]
    cases hk : l[k]? with
    | none =>
      rw [Option.toList_none, List.append_nil]
      exact ⟨ih.good, Nat.le_succ_of_le ih.few, ih.keys⟩
    | some r =>
      rw [Option.toList_some]
      unfold grownO
      rw [List.foldl_append]
      exact gok_step ih (by omega) r
end Go.Proofs.Ytobgjkkadnihjaa

