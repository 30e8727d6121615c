/-
  What include proves included finds; nothing else is found; the path is short. Plain laws.
-/
import Derived.Test.YtagbajdjpfafoaaDoorZIncl
import Derived.Test.YtagbajdjpfafoaaDoorZIncd
import Derived.Test.YtagbajdjpfafoaaDoorZF
namespace Go.Proofs.YtagbajdjpfafoaaDoor
set_option linter.unusedSimpArgs false
set_option linter.unusedVariables false

theorem rootG_two (m : Int) (f : Nat) {l : List (List UInt8)} (h : 2 ≤ l.length) : rootG m (f + 1) l = dig m 6 [rootG m f (l.take (halfF l.length)), rootG m f (l.drop (halfF l.length))] := by
  match l, h with
  | _ :: _ :: _, _ => rfl
theorem one_of {l : List (List UInt8)} (h : l.length = 1) : ∃ p, l = [p] := by
  match l, h with
  | [p], _ => exact ⟨p, rfl⟩
theorem pair_fit {m : Int} {f : Nat} {l : List (List UInt8)} (h : 2 ≤ l.length) (hw : wt l ≤ 16777216) : pairF m (rootG m f (l.take (halfF l.length))) (rootG m f (l.drop (halfF l.length))) = (rootG m (f + 1) l, 0) := by
  obtain ⟨k1, k2⟩ := halfF_in h
  have w0 := wt_split l (halfF l.length)
  have g1 := rootG_len m f (l.take (halfF l.length)) (by rw [List.length_take]; omega)
  have g2 := rootG_len m f (l.drop (halfF l.length)) (by rw [List.length_drop]; omega)
  unfold pairF
  rw [if_pos (by omega), rootG_two m f h]
theorem inc_right (m : Int) : ∀ (f : Nat) (l : List (List UInt8)) (i : Nat) (p : List UInt8), l[i]? = some p → l.length < f → wt l ≤ 16777216 → incF m f l.length i p (inclG m f l i) = (rootG m f l, true)
  | 0, l, i, p, _, h, _ => by omega
  | f + 1, l, i, p, hp, h, hw => by
    have hi : i < l.length := (List.getElem?_eq_some_iff.1 hp).1
    by_cases h1 : l.length = 1
    · obtain ⟨q, rfl⟩ := one_of h1
      have hi0 : i = 0 := by simp at hi; exact hi
      subst hi0
      have hq : q = p := by simpa using hp
      subst hq
      have e0 : inclG m (f + 1) [q] 0 = [] := by unfold inclG; rw [if_pos (by simp)]
      have hw1 : wt [q] = 42 + q.length := rfl
      rw [e0]
      show incF m (f + 1) 1 0 q [] = _
      rw [incF_one]
      unfold leafF
      rw [if_pos (by omega)]
      rfl
    · have hge : 2 ≤ l.length := by omega
      obtain ⟨k1, k2⟩ := halfF_in hge
      have w0 := wt_split l (halfF l.length)
      have l1 : (l.take (halfF l.length)).length = halfF l.length := by rw [List.length_take]; omega
      have l2 : (l.drop (halfF l.length)).length = l.length - halfF l.length := by rw [List.length_drop]
      have pf := pair_fit (m := m) (f := f) hge hw
      by_cases hik : i < halfF l.length
      · have e0 : inclG m (f + 1) l i = inclG m f (l.take (halfF l.length)) i ++ [rootG m f (l.drop (halfF l.length))] := by
          conv => lhs; unfold inclG
          rw [if_neg (by omega), if_pos hik]
        have ih := inc_right m f (l.take (halfF l.length)) i p (by rw [List.getElem?_take, if_pos hik]; exact hp) (by omega) (by omega)
        rw [l1] at ih
        rw [e0, incF_lo m f _ i p _ _ h1 hik, ih]
        dsimp only
        rw [if_pos rfl, pf]
        rfl
      · have e0 : inclG m (f + 1) l i = inclG m f (l.drop (halfF l.length)) (i - halfF l.length) ++ [rootG m f (l.take (halfF l.length))] := by
          conv => lhs; unfold inclG
          rw [if_neg (by omega), if_neg hik]
        have ih := inc_right m f (l.drop (halfF l.length)) (i - halfF l.length) p (by rw [List.getElem?_drop, show halfF l.length + (i - halfF l.length) = i by omega]; exact hp) (by omega) (by omega)
        rw [l2] at ih
        rw [e0, incF_hi m f _ i p _ _ h1 hik, ih]
        dsimp only
        rw [if_pos rfl, pf]
        rfl
theorem rootG_big (f : Nat) (l : List (List UInt8)) (h0 : 0 < l.length) (h : wt l < 16777216) : (rootG 2 f l).length < 4294967296 := by
  have := rootG_len 2 f l h0
  omega
theorem two_small {x y : List UInt8} (h1 : x.length < 4294967296) (h2 : y.length < 4294967296) : ∀ p ∈ [x, y], p.length < 4294967296 := fun p hp => by
  simp only [List.mem_cons, List.not_mem_nil, or_false] at hp
  rcases hp with rfl | rfl
  · exact h1
  · exact h2
theorem one_small {x : List UInt8} (h1 : x.length < 4294967296) : ∀ p ∈ [x], p.length < 4294967296 := fun p hp => by
  simp only [List.mem_cons, List.not_mem_nil, or_false] at hp
  rw [hp]; exact h1
/-- Two that make what two others make are those. -/
theorem pair_inj {a b c d : List UInt8} (hc : (pairF 2 a b).2 = 0) (h : (pairF 2 a b).1 = dig 2 6 [c, d]) (h1 : c.length < 4294967296) (h2 : d.length < 4294967296) : a = c ∧ b = d := by
  unfold pairF at hc h
  split at hc
  · rename_i hs
    rw [if_pos hs] at h
    have h : frameB 6 [a, b] = frameB 6 [c, d] := h
    have e := (frameB_inj (by simp) (by simp) (two_small (by omega) (by omega)) (two_small h1 h2) h).2
    simp only [List.cons.injEq, and_true] at e
    exact e
  · cases hc
theorem inc_sound : ∀ (f : Nat) (l : List (List UInt8)) (i : Nat) (e : List UInt8) (path : List (List UInt8)), i < l.length → l.length < f → wt l < 16777216 → (incF 2 f l.length i e path).2 = true → (incF 2 f l.length i e path).1 = rootG 2 f l → l[i]? = some e
  | 0, l, i, e, path, _, h, _, _, _ => by omega
  | f + 1, l, i, e, path, hi, h, hw, hok, hr => by
    by_cases h1 : l.length = 1
    · obtain ⟨q, rfl⟩ := one_of h1
      have hi0 : i = 0 := by simp at hi; exact hi
      subst hi0
      have hok : (incF 2 (f + 1) 1 0 e path).2 = true := hok
      have hr : (incF 2 (f + 1) 1 0 e path).1 = frameB 5 [q] := hr
      rw [incF_one] at hok hr
      have hw1 : wt [q] = 42 + q.length := rfl
      unfold leafF at hok hr
      split at hr
      · rename_i hs
        have hr : frameB 5 [e] = frameB 5 [q] := hr
        have ee := (frameB_inj (by simp) (by simp) (one_small (by omega)) (one_small (by omega)) hr).2
        simp only [List.cons.injEq, and_true] at ee
        rw [ee]; rfl
      · rename_i hs
        rw [if_neg hs] at hok
        simp at hok
    · have hge : 2 ≤ l.length := by omega
      obtain ⟨k1, k2⟩ := halfF_in hge
      have w0 := wt_split l (halfF l.length)
      have l1 : (l.take (halfF l.length)).length = halfF l.length := by rw [List.length_take]; omega
      have l2 : (l.drop (halfF l.length)).length = l.length - halfF l.length := by rw [List.length_drop]
      have b1 := rootG_big f (l.take (halfF l.length)) (by omega) (by omega)
      have b2 := rootG_big f (l.drop (halfF l.length)) (by omega) (by omega)
      rw [rootG_two 2 f hge] at hr
      rcases List.eq_nil_or_concat path with rfl | ⟨P, q, rfl⟩
      · rw [incF_nil 2 f _ i e h1] at hok
        cases hok
      · rw [List.concat_eq_append] at *
        by_cases hik : i < halfF l.length
        · rw [incF_lo 2 f _ i e q P h1 hik] at hok hr
          split at hok
          · rename_i hb
            rw [if_pos hb] at hr
            have hc : (pairF 2 (incF 2 f (halfF l.length) i e P).1 q).2 = 0 := by simpa using hok
            have hp := (pair_inj hc hr b1 b2).1
            have ih := inc_sound f (l.take (halfF l.length)) i e P (by omega) (by omega) (by omega) (by rw [l1]; exact hb) (by rw [l1]; exact hp)
            rw [List.getElem?_take, if_pos hik] at ih
            exact ih
          · cases hok
        · rw [incF_hi 2 f _ i e q P h1 hik] at hok hr
          split at hok
          · rename_i hb
            rw [if_pos hb] at hr
            have hc : (pairF 2 q (incF 2 f (l.length - halfF l.length) (i - halfF l.length) e P).1).2 = 0 := by simpa using hok
            have hp := (pair_inj hc hr b1 b2).2
            have ih := inc_sound f (l.drop (halfF l.length)) (i - halfF l.length) e P (by omega) (by omega) (by omega) (by rw [l2]; exact hb) (by rw [l2]; exact hp)
            rw [List.getElem?_drop, show halfF l.length + (i - halfF l.length) = i by omega] at ih
            exact ih
          · cases hok
theorem halfG_spec : ∀ (f n k : Nat), (∃ j, k = 2 ^ j) → k < n → n ≤ k + f → (∃ j, halfG f n k = 2 ^ j) ∧ n ≤ 2 * halfG f n k
  | 0, n, k, hj, h1, h2 => by omega
  | f + 1, n, k, ⟨j, hj⟩, h1, h2 => by
    have hpos : 0 < k := by rw [hj]; exact Nat.two_pow_pos j
    unfold halfG
    split
    · rename_i h
      exact halfG_spec f n (2 * k) ⟨j + 1, by rw [hj, Nat.pow_succ]; omega⟩ h (by omega)
    · rename_i h
      exact ⟨⟨j, hj⟩, by omega⟩
theorem halfF_spec {n : Nat} (h : 2 ≤ n) : (∃ j, halfF n = 2 ^ j) ∧ n ≤ 2 * halfF n := halfG_spec n n 1 ⟨0, rfl⟩ (by omega) (by omega)
theorem inclG_few (m : Int) : ∀ (f d : Nat) (l : List (List UInt8)) (i : Nat), l.length ≤ 2 ^ d → (inclG m f l i).length ≤ d
  | 0, d, l, i, _ => by show 0 ≤ d; omega
  | f + 1, d, l, i, h => by
    unfold inclG
    split
    · exact Nat.zero_le _
    · rename_i h1
      obtain ⟨k1, k2⟩ := halfF_in (n := l.length) (by omega)
      obtain ⟨⟨j, hj⟩, h3⟩ := halfF_spec (n := l.length) (by omega)
      cases d with
      | zero => simp at h; omega
      | succ d =>
        have hk : halfF l.length ≤ 2 ^ d := by
          rw [hj]
          apply Nat.pow_le_pow_right (by omega)
          have hlt : 2 ^ j < 2 ^ (d + 1) := by omega
          have := (Nat.pow_lt_pow_iff_right (a := 2) (by omega)).1 hlt
          omega
        split
        · have := inclG_few m f d (l.take (halfF l.length)) i (by rw [List.length_take]; omega)
          simp; omega
        · have := inclG_few m f d (l.drop (halfF l.length)) (i - halfF l.length) (by rw [List.length_drop]; omega)
          simp; omega
theorem incl_few (m : Int) (l : List (List UInt8)) (i : Nat) (h : 0 < (inclF m l i).length) : 2 ^ ((inclF m l i).length - 1) < l.length := by
  unfold inclF at *
  rcases Nat.lt_or_ge (2 ^ ((inclG m 65 l i).length - 1)) l.length with h1 | h1
  · exact h1
  · have := inclG_few m 65 _ l i h1
    omega
theorem chk_right (m : Int) {l : List (List UInt8)} {i : Nat} {p : List UInt8} (hp : l[i]? = some p) (hl : l.length ≤ 64) (hw : wt l ≤ 16777216) : chkF m (rootF m l) l.length i p (inclF m l i) = 0 := by
  unfold chkF rootF inclF
  rw [inc_right m 65 l i p hp (by omega) hw]
  simp
theorem chk_sound {l : List (List UInt8)} {i : Nat} {e : List UInt8} {path : List (List UInt8)} (hi : i < l.length) (hl : l.length ≤ 64) (hw : wt l < 16777216) (h : chkF 2 (rootF 2 l) l.length i e path = 0) : l[i]? = some e := by
  unfold chkF rootF at h
  split at h
  · rename_i hb
    simp only [Bool.and_eq_true, beq_iff_eq] at hb
    exact inc_sound 65 l i e path hi (by omega) hw hb.1 hb.2
  · cases h
end Go.Proofs.YtagbajdjpfafoaaDoor
