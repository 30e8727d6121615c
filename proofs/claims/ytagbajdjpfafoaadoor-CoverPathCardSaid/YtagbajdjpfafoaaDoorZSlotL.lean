/-
  Open roots of slots are the same just if the slots are. Plain laws.
-/
import Derived.Test.YtagbajdjpfafoaaDoorZSlotR
import Derived.Test.YtagbajdjpfafoaaDoorZF
namespace Go.Proofs.YtagbajdjpfafoaaDoor
set_option linter.unusedSimpArgs false
set_option linter.unusedVariables false

theorem small2 {x y : List UInt8} (h1 : x.length < 4294967296) (h2 : y.length < 4294967296) : ∀ p ∈ [x, y], p.length < 4294967296 := fun p hp => by
  simp only [List.mem_cons, List.not_mem_nil, or_false] at hp
  rcases hp with rfl | rfl
  · exact h1
  · exact h2
theorem leafS_inj {s t : Sl3} (hs : s.ok) (ht : t.ok) (h : leafS 2 s = leafS 2 t) : s = t := by
  have h1 := hs.salt
  have h2 := ht.salt
  have h3 := Sl3.body_len hs
  have h4 := Sl3.body_len ht
  have h : frameB 1 [s.salt, s.body] = frameB 1 [t.salt, t.body] := h
  have e := (frameB_inj (by simp) (by simp) (small2 (by omega) (by omega)) (small2 (by omega) (by omega)) h).2
  simp only [List.cons.injEq, and_true] at e
  obtain ⟨e1, e2⟩ := e
  obtain ⟨f, sa, d⟩ := s
  obtain ⟨f', sa', d'⟩ := t
  have n1 := hs.nil
  have n2 := ht.nil
  dsimp only at e1 n1 n2
  subst e1
  cases f <;> cases f'
  · rw [n1 rfl, n2 rfl]
  · cases e2
  · cases e2
  · have e2 : (1 : UInt8) :: d = 1 :: d' := e2
    injection e2 with _ e2
    rw [e2]
theorem upF_inj : ∀ (n : Nat) (a b : List (List UInt8)), a.length = 2 * n → b.length = 2 * n → wt a < 4294967296 → wt b < 4294967296 → upF 2 a = upF 2 b → a = b
  | 0, [], [], _, _, _, _, _ => rfl
  | n + 1, a1 :: a2 :: a, b1 :: b2 :: b, h1, h2, w1, w2, h => by
    simp only [wt, List.map_cons, List.sum_cons] at w1 w2
    have h : frameB 2 [a1, a2] :: upF 2 a = frameB 2 [b1, b2] :: upF 2 b := h
    injection h with e1 e2
    have e := (frameB_inj (by simp) (by simp) (small2 (by omega) (by omega)) (small2 (by omega) (by omega)) e1).2
    simp only [List.cons.injEq, and_true] at e
    rw [e.1, e.2, upF_inj n a b (by simp at h1; omega) (by simp at h2; omega) (by simp only [wt]; omega) (by simp only [wt]; omega) e2]
  | n + 1, [_], _, h1, _, _, _, _ => by simp at h1; omega
  | n + 1, _ :: _ :: _, [_], _, h2, _, _, _ => by simp at h2; omega
theorem rootR_inj : ∀ (j : Nat) (a b : List (List UInt8)), a.length = 2 ^ j → b.length = 2 ^ j → wt a < 4294967296 → wt b < 4294967296 → rootR 2 j a = rootR 2 j b → a = b
  | 0, [a], [b], _, _, _, _, h => by
    have h : a = b := h
    rw [h]
  | 0, [], _, h, _, _, _, _ => by simp at h
  | 0, _ :: _ :: _, _, h, _, _, _, _ => by simp at h
  | 0, [_], [], _, h, _, _, _ => by simp at h
  | 0, [_], _ :: _ :: _, _, h, _, _, _ => by simp at h
  | j + 1, a, b, h1, h2, w1, w2, h => by
    have e1 : a.length = 2 * 2 ^ j := by rw [h1, Nat.pow_succ]; omega
    have e2 : b.length = 2 * 2 ^ j := by rw [h2, Nat.pow_succ]; omega
    have u1 := upF_wt 2 a
    have u2 := upF_wt 2 b
    exact upF_inj (2 ^ j) a b e1 e2 w1 w2 (rootR_inj j (upF 2 a) (upF 2 b) (upF_len 2 _ a e1) (upF_len 2 _ b e2) (by omega) (by omega) h)
theorem leavesF_inj : ∀ (a b : List Sl3), (∀ s ∈ a, s.ok) → (∀ s ∈ b, s.ok) → leavesF 2 a = leavesF 2 b → a = b
  | [], [], _, _, _ => rfl
  | [], _ :: _, _, _, h => by simp [leavesF] at h
  | _ :: _, [], _, _, h => by simp [leavesF] at h
  | s :: a, t :: b, h1, h2, h => by
    simp only [leavesF, List.map_cons, List.cons.injEq] at h
    rw [leafS_inj (h1 s (by simp)) (h2 t (by simp)) h.1, leavesF_inj a b (fun x hx => h1 x (by simp [hx])) (fun x hx => h2 x (by simp [hx])) h.2]
theorem rootSF_inj {a b : List Sl3} (hl : a.length = 1 ∨ a.length = 2 ∨ a.length = 4 ∨ a.length = 8 ∨ a.length = 16) (hab : b.length = a.length) (ha : ∀ s ∈ a, s.ok) (hb : ∀ s ∈ b, s.ok) (h : rootSF 2 a = rootSF 2 b) : a = b := by
  unfold rootSF at h
  rw [hab] at h
  have l1 : (leavesF 2 a).length = 2 ^ logS a.length := by unfold leavesF; rw [List.length_map]; exact logS_pow hl
  have l2 : (leavesF 2 b).length = 2 ^ logS a.length := by unfold leavesF; rw [List.length_map, hab]; exact logS_pow hl
  have w1 := leaves_wt 2 ha
  have w2 := leaves_wt 2 hb
  have hal : a.length ≤ 16 := by omega
  exact leavesF_inj a b ha hb (rootR_inj _ _ _ l1 l2 (by omega) (by omega) h)
theorem slotR_ok (r : Raw) : (slotR r).ok := by
  refine ⟨?_, ?_, fun h => ?_⟩
  · show 3 ≤ 80; omega
  · unfold slotR
    dsimp only
    split
    · have := txt_len 20 r; omega
    · simp
  · have h : decide (r.kind % ((3 : Nat) : Int) > 0) = false := h
    show (if decide (r.kind % ((3 : Nat) : Int) > 0) = true then txt 20 r else []) = []
    rw [h]; rfl
theorem slF_len (l : List Raw) : (slF l).length = 1 ∨ (slF l).length = 2 ∨ (slF l).length = 4 ∨ (slF l).length = 8 ∨ (slF l).length = 16 := by
  unfold slF
  rw [List.length_map, List.length_range]
  unfold nS
  repeat' split
  all_goals omega
theorem slF_ok (l : List Raw) : ∀ s ∈ slF l, s.ok := by
  intro s hs
  obtain ⟨i, _, rfl⟩ := List.mem_map.1 hs
  exact slotR_ok _
theorem rootR_pos (m : Int) : ∀ (j : Nat) (r : List (List UInt8)), r.length = 2 ^ j → (∀ p ∈ r, 0 < p.length) → 0 < (rootR m j r).length
  | 0, [a], _, h => h a (by simp)
  | 0, [], h, _ => by simp at h
  | 0, _ :: _ :: _, h, _ => by simp at h
  | j + 1, r, h, hp => by
    have e1 : r.length = 2 * 2 ^ j := by rw [h, Nat.pow_succ]; omega
    refine rootR_pos m j (upF m r) (upF_len m _ r e1) ?_
    have key : ∀ (l : List (List UInt8)), ∀ p ∈ upF m l, 0 < p.length := by
      intro l
      induction l using upF.induct with
      | case1 a b r ih =>
        intro p hq
        have hq : p ∈ dig m 2 [a, b] :: upF m r := hq
        rcases List.mem_cons.1 hq with rfl | hq
        · rcases dig_len m 2 [a, b] with h | h <;> omega
        · exact ih p hq
      | case2 l h => 
        intro p hq
        unfold upF at hq
        split at hq
        · exact absurd rfl (h _ _ _)
        · cases hq
    exact key r
theorem rootSF_pos (m : Int) {l : List Sl3} (hl : l.length = 1 ∨ l.length = 2 ∨ l.length = 4 ∨ l.length = 8 ∨ l.length = 16) : 0 < (rootSF m l).length := by
  unfold rootSF
  refine rootR_pos m _ _ (by unfold leavesF; rw [List.length_map]; exact logS_pow hl) fun p hp => ?_
  obtain ⟨s, _, rfl⟩ := List.mem_map.1 hp
  rcases dig_len m 1 [s.salt, s.body] with h | h <;> (unfold leafS; omega)
end Go.Proofs.YtagbajdjpfafoaaDoor
