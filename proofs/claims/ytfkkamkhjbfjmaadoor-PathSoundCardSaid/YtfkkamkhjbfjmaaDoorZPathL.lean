/-
  A slot's path is right; nothing else is proved of a slot. Plain laws.
-/
import Derived.Test.YtfkkamkhjbfjmaaDoorZChkP
import Derived.Test.YtfkkamkhjbfjmaaDoorZSlotL
namespace Go.Proofs.YtfkkamkhjbfjmaaDoor
set_option linter.unusedSimpArgs false
set_option linter.unusedVariables false

theorem upF_get (m : Int) : ∀ (k : Nat) (l : List (List UInt8)) (a b : List UInt8), l[2 * k]? = some a → l[2 * k + 1]? = some b → (upF m l)[k]? = some (dig m 2 [a, b])
  | 0, x :: y :: r, a, b, h1, h2 => by
    simp at h1 h2
    subst h1 h2
    rfl
  | k + 1, x :: y :: r, a, b, h1, h2 => by
    have e1 : r[2 * k]? = some a := by simpa [show 2 * (k + 1) = 2 * k + 1 + 1 by omega] using h1
    have e2 : r[2 * k + 1]? = some b := by simpa [show 2 * (k + 1) + 1 = (2 * k + 1) + 1 + 1 by omega] using h2
    show (dig m 2 [x, y] :: upF m r)[k + 1]? = _
    rw [List.getElem?_cons_succ]
    exact upF_get m k r a b e1 e2
  | 0, [x], a, b, h1, h2 => by simp at h2
  | k + 1, [x], a, b, h1, h2 => by simp at h1
  | k, [], a, b, h1, h2 => by simp at h1
theorem two_le_wt {l : List (List UInt8)} {i j : Nat} {a b : List UInt8} (hij : i < j) (ha : l[i]? = some a) (hb : l[j]? = some b) : a.length + b.length + 84 ≤ wt l := by
  have h1 := wt_split l j
  have ha' : (l.take j)[i]? = some a := by rw [List.getElem?_take, if_pos hij]; exact ha
  have hb' : (l.drop j)[0]? = some b := by rw [List.getElem?_drop]; exact hb
  have key : ∀ {k : List (List UInt8)} {p : List UInt8}, p ∈ k → 42 + p.length ≤ wt k := by
    intro k
    induction k with
    | nil => intro p h; cases h
    | cons q k ih =>
      intro p h
      simp only [wt, List.map_cons, List.sum_cons]
      rcases List.mem_cons.1 h with rfl | h
      · omega
      · have := ih h; simp only [wt] at this; omega
  have k1 := key (List.mem_of_getElem? ha')
  have k2 := key (List.mem_of_getElem? hb')
  omega
theorem path_right (m : Int) : ∀ (j : Nat) (r : List (List UInt8)) (i : Nat) (d : List UInt8), r.length = 2 ^ j → wt r ≤ 16777216 → r[i]? = some d → chkG m (rootR m j r) (pathG m j r i) (2 ^ j) i d = 0
  | 0, r, i, d, hr, _, hd => by
    have hi : i < r.length := (List.getElem?_eq_some_iff.1 hd).1
    rw [hr] at hi
    have hi0 : i = 0 := by simp at hi; exact hi
    subst hi0
    show (if (2 : Nat) ^ 0 = 1 ∧ (d == r.getD 0 []) = true then 0 else 10) = 0
    rw [List.getD_eq_getElem?_getD, hd, if_pos ⟨rfl, beq_self_eq_true _⟩]
  | j + 1, r, i, d, hr, hw, hd => by
    have hi : i < r.length := (List.getElem?_eq_some_iff.1 hd).1
    have hpp : 0 < 2 ^ j := Nat.two_pow_pos j
    have hr2 : r.length = 2 * 2 ^ j := by rw [hr, Nat.pow_succ]; omega
    have hn1 : 2 ^ (j + 1) ≠ 1 := by rw [Nat.pow_succ]; omega
    have hn2 : 2 ^ (j + 1) / 2 = 2 ^ j := by rw [Nat.pow_succ]; omega
    have hul := upF_len m (2 ^ j) r hr2
    have huw := upF_wt m r
    have hsb : sib i < r.length := by unfold sib; split <;> omega
    obtain ⟨p, hp⟩ : ∃ p, r[sib i]? = some p := ⟨_, List.getElem?_eq_getElem hsb⟩
    have hg : r.getD (sib i) [] = p := by rw [List.getD_eq_getElem?_getD, hp]; rfl
    show (if 2 ^ (j + 1) = 1 then 10 else
      if i % 2 = 1 then (if (nodeF m (r.getD (sib i) []) d).2 = 0 then chkG m (rootR m j (upF m r)) (pathG m j (upF m r) (i / 2)) (2 ^ (j + 1) / 2) (i / 2) (nodeF m (r.getD (sib i) []) d).1 else 10)
      else (if (nodeF m d (r.getD (sib i) [])).2 = 0 then chkG m (rootR m j (upF m r)) (pathG m j (upF m r) (i / 2)) (2 ^ (j + 1) / 2) (i / 2) (nodeF m d (r.getD (sib i) [])).1 else 10)) = 0
    rw [if_neg hn1, hn2, hg]
    by_cases ho : i % 2 = 1
    · have hs : sib i = 2 * (i / 2) := by unfold sib; rw [if_pos ho]; omega
      have hi2 : i = 2 * (i / 2) + 1 := by omega
      have g1 : r[2 * (i / 2)]? = some p := by rw [← hs]; exact hp
      have g2 : r[2 * (i / 2) + 1]? = some d := by rw [← hi2]; exact hd
      have hu := upF_get m (i / 2) r p d g1 g2
      have hz := two_le_wt (by omega) g1 g2
      have hnf : nodeF m p d = (dig m 2 [p, d], 0) := by unfold nodeF; rw [if_pos (by omega)]
      rw [if_pos ho, hnf]
      dsimp only
      rw [if_pos rfl]
      exact path_right m j (upF m r) (i / 2) _ hul (by omega) hu
    · have hs : sib i = 2 * (i / 2) + 1 := by unfold sib; rw [if_neg ho]; omega
      have hi2 : i = 2 * (i / 2) := by omega
      have g1 : r[2 * (i / 2)]? = some d := by rw [← hi2]; exact hd
      have g2 : r[2 * (i / 2) + 1]? = some p := by rw [← hs]; exact hp
      have hu := upF_get m (i / 2) r d p g1 g2
      have hz := two_le_wt (by omega) g1 g2
      have hnf : nodeF m d p = (dig m 2 [d, p], 0) := by unfold nodeF; rw [if_pos (by omega)]
      rw [if_neg ho, hnf]
      dsimp only
      rw [if_pos rfl]
      exact path_right m j (upF m r) (i / 2) _ hul (by omega) hu
theorem node_inj {a b c d : List UInt8} (hc : (nodeF 2 a b).2 = 0) (h : (nodeF 2 a b).1 = dig 2 2 [c, d]) (h1 : c.length < 4294967296) (h2 : d.length < 4294967296) : a = c ∧ b = d := by
  unfold nodeF at hc h
  split at hc
  · rename_i hs
    rw [if_pos hs] at h
    have h : frameB 2 [a, b] = frameB 2 [c, d] := h
    have e := (frameB_inj (by simp) (by simp) (small2 (by omega) (by omega)) (small2 h1 h2) h).2
    simp only [List.cons.injEq, and_true] at e
    exact e
  · cases hc
theorem path_sound : ∀ (j : Nat) (r : List (List UInt8)) (i : Nat) (d : List UInt8) (path : List (List UInt8)), r.length = 2 ^ j → wt r < 16777216 → i < 2 ^ j → chkG 2 (rootR 2 j r) path (2 ^ j) i d = 0 → r[i]? = some d
  | 0, r, i, d, path, hr, _, hi, h => by
    have hi0 : i = 0 := by simp at hi; exact hi
    subst hi0
    cases path with
    | nil =>
      have h : (if (2 : Nat) ^ 0 = 1 ∧ (d == r.getD 0 []) = true then 0 else 10) = 0 := h
      split at h
      · rename_i hh
        have e : d = r.getD 0 [] := by simpa using hh.2
        obtain ⟨x, rfl⟩ : ∃ x, r = [x] := by
          match r, hr with
          | [x], _ => exact ⟨x, rfl⟩
        rw [e]; rfl
      · cases h
    | cons p ps =>
      have h : (if (2 : Nat) ^ 0 = 1 then 10 else _) = 0 := h
      rw [if_pos rfl] at h
      cases h
  | j + 1, r, i, d, path, hr, hw, hi, h => by
    have hpp : 0 < 2 ^ j := Nat.two_pow_pos j
    have hr2 : r.length = 2 * 2 ^ j := by rw [hr, Nat.pow_succ]; omega
    have hn1 : 2 ^ (j + 1) ≠ 1 := by rw [Nat.pow_succ]; omega
    have hn2 : 2 ^ (j + 1) / 2 = 2 ^ j := by rw [Nat.pow_succ]; omega
    have hi2 : i < 2 * 2 ^ j := by rw [Nat.pow_succ] at hi; omega
    have hul := upF_len 2 (2 ^ j) r hr2
    have huw := upF_wt 2 r
    cases path with
    | nil =>
      have h : (if 2 ^ (j + 1) = 1 ∧ _ then 0 else 10) = 0 := h
      rw [if_neg (fun hh => hn1 hh.1)] at h
      cases h
    | cons p ps =>
      obtain ⟨x, hx⟩ : ∃ x, r[2 * (i / 2)]? = some x := ⟨_, List.getElem?_eq_getElem (by omega)⟩
      obtain ⟨y, hy⟩ : ∃ y, r[2 * (i / 2) + 1]? = some y := ⟨_, List.getElem?_eq_getElem (by omega)⟩
      have hu := upF_get 2 (i / 2) r x y hx hy
      have hz := two_le_wt (by omega) hx hy
      have h : (if 2 ^ (j + 1) = 1 then 10 else
        if i % 2 = 1 then (if (nodeF 2 p d).2 = 0 then chkG 2 (rootR 2 j (upF 2 r)) ps (2 ^ (j + 1) / 2) (i / 2) (nodeF 2 p d).1 else 10)
        else (if (nodeF 2 d p).2 = 0 then chkG 2 (rootR 2 j (upF 2 r)) ps (2 ^ (j + 1) / 2) (i / 2) (nodeF 2 d p).1 else 10)) = 0 := h
      rw [if_neg hn1, hn2] at h
      by_cases ho : i % 2 = 1
      · rw [if_pos ho] at h
        split at h
        · rename_i hc
          have ih := path_sound j (upF 2 r) (i / 2) _ ps hul (by omega) (by omega) h
          rw [hu] at ih
          injection ih with ih
          have e := node_inj hc ih.symm (by omega) (by omega)
          rw [e.2, ← hy]
          congr 1; omega
        · cases h
      · rw [if_neg ho] at h
        split at h
        · rename_i hc
          have ih := path_sound j (upF 2 r) (i / 2) _ ps hul (by omega) (by omega) h
          rw [hu] at ih
          injection ih with ih
          have e := node_inj hc ih.symm (by omega) (by omega)
          rw [e.1, ← hx]
          congr 1; omega
        · cases h
end Go.Proofs.YtfkkamkhjbfjmaaDoor
