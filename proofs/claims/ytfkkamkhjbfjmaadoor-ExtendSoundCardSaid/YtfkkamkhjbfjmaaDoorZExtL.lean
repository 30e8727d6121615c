/-
  What extend proves roots finds; nothing else is found; the path is short. Plain laws.
-/
import Derived.Test.YtfkkamkhjbfjmaaDoorZExt
import Derived.Test.YtfkkamkhjbfjmaaDoorZRoots
import Derived.Test.YtfkkamkhjbfjmaaDoorZInclL
import Derived.Test.YtfkkamkhjbfjmaaDoorZRollL
namespace Go.Proofs.YtfkkamkhjbfjmaaDoor
set_option linter.unusedSimpArgs false
set_option linter.unusedVariables false

theorem pow_le {i j : Nat} (h : 2 ^ i < 2 ^ (j + 1)) : 2 ^ i ≤ 2 ^ j := by
  have := (Nat.pow_lt_pow_iff_right (a := 2) (by omega)).1 h
  exact Nat.pow_le_pow_right (by omega) (by omega)
theorem halfF_mid {k n : Nat} (hn : 2 ≤ n) (h : halfF n < k) (hk : k ≤ n) : halfF k = halfF n := by
  obtain ⟨n1, n2⟩ := halfF_in hn
  obtain ⟨⟨i, hi⟩, n3⟩ := halfF_spec hn
  obtain ⟨k1, k2⟩ := halfF_in (n := k) (by omega)
  obtain ⟨⟨j, hj⟩, k3⟩ := halfF_spec (n := k) (by omega)
  have a := pow_le (i := i) (j := j) (by rw [Nat.pow_succ]; omega)
  have b := pow_le (i := j) (j := i) (by rw [Nat.pow_succ]; omega)
  omega
theorem rootF_fit {m : Int} {l : List (List UInt8)} (h : 2 ≤ l.length) (h64 : l.length ≤ 64) (hw : wt l ≤ 16777216) : pairF m (rootF m (l.take (halfF l.length))) (rootF m (l.drop (halfF l.length))) = (rootF m l, 0) := by
  obtain ⟨k1, k2⟩ := halfF_in h
  have w0 := wt_split l (halfF l.length)
  have g1 := rootG_len m 65 (l.take (halfF l.length)) (by rw [List.length_take]; omega)
  have g2 := rootG_len m 65 (l.drop (halfF l.length)) (by rw [List.length_drop]; omega)
  rw [rootF_two m h h64]
  unfold pairF rootF
  rw [if_pos (by omega)]
theorem wt_take_le (l : List (List UInt8)) (k : Nat) : wt (l.take k) ≤ wt l := by
  have := wt_split l k
  omega
theorem wt_drop_le (l : List (List UInt8)) (k : Nat) : wt (l.drop k) ≤ wt l := by
  have := wt_split l k
  omega
theorem ext_right (m : Int) (old : List UInt8) : ∀ (f : Nat) (l : List (List UInt8)) (k : Nat) (kn : Bool), 1 ≤ k → k ≤ l.length → l.length < f → l.length ≤ 64 → wt l ≤ 16777216 → (kn = true → old = rootF m (l.take k)) → rooF m old f k l.length kn (extG m f l k kn) = (rootF m (l.take k), rootF m l, true)
  | 0, l, k, kn, _, _, h, _, _, _ => by omega
  | f + 1, l, k, kn, h1, hk, h, h64, hw, hkn => by
    by_cases hn : k = l.length
    · subst hn
      cases kn with
      | true =>
        have e0 : extG m (f + 1) l l.length true = [] := by unfold extG; rw [if_pos rfl, if_pos rfl]
        rw [e0, rooF_kn, hkn rfl, List.take_length]
        rfl
      | false =>
        have e0 : extG m (f + 1) l l.length false = [rootF m l] := by unfold extG; rw [if_pos rfl]; rfl
        rw [e0, rooF_one, List.take_length]
    · have hge : 2 ≤ l.length := by omega
      obtain ⟨k1, k2⟩ := halfF_in hge
      have l1 : (l.take (halfF l.length)).length = halfF l.length := by rw [List.length_take]; omega
      have l2 : (l.drop (halfF l.length)).length = l.length - halfF l.length := by rw [List.length_drop]
      have w1 := wt_take_le l (halfF l.length)
      have w2 := wt_drop_le l (halfF l.length)
      have pf := rootF_fit (m := m) hge h64 hw
      by_cases hik : k ≤ halfF l.length
      · have e0 : extG m (f + 1) l k kn = extG m f (l.take (halfF l.length)) k kn ++ [rootF m (l.drop (halfF l.length))] := by
          conv => lhs; unfold extG
          rw [if_neg hn, if_pos hik]
        have et : (l.take (halfF l.length)).take k = l.take k := by rw [List.take_take, Nat.min_eq_left hik]
        have ih := ext_right m old f (l.take (halfF l.length)) k kn h1 (by omega) (by omega) (by omega) (by omega) (by rw [et]; exact hkn)
        rw [l1, et] at ih
        rw [e0, rooF_lo m old f k _ kn _ _ hn hik, ih]
        unfold joinLo
        dsimp only
        rw [if_pos rfl, pf]
        rfl
      · have e0 : extG m (f + 1) l k kn = extG m f (l.drop (halfF l.length)) (k - halfF l.length) false ++ [rootF m (l.take (halfF l.length))] := by
          conv => lhs; unfold extG
          rw [if_neg hn, if_neg hik]
        have ih := ext_right m old f (l.drop (halfF l.length)) (k - halfF l.length) false (by omega) (by omega) (by omega) (by omega) (by omega) (fun h => by cases h)
        rw [l2] at ih
        have hkl : (l.take k).length = k := by rw [List.length_take]; omega
        have hmid := halfF_mid hge (by omega) hk
        have pf2 := rootF_fit (m := m) (l := l.take k) (by omega) (by omega) (Nat.le_trans (wt_take_le l k) hw)
        rw [hkl, hmid] at pf2
        have et : (l.take k).take (halfF l.length) = l.take (halfF l.length) := by rw [List.take_take, Nat.min_eq_left (by omega)]
        have ed : (l.take k).drop (halfF l.length) = (l.drop (halfF l.length)).take (k - halfF l.length) := by rw [List.drop_take]
        rw [et, ed] at pf2
        rw [e0, rooF_hi m old f k _ kn _ _ hn hik, ih]
        unfold joinHi
        dsimp only
        rw [if_pos rfl, pf, pf2]
        rfl
theorem rootF_big {l : List (List UInt8)} (h0 : 0 < l.length) (h : wt l < 16777216) : (rootF 2 l).length < 4294967296 := rootG_big 65 l h0 h
theorem ext_sound (old : List UInt8) : ∀ (f : Nat) (a b : List (List UInt8)) (kn : Bool) (path : List (List UInt8)), 1 ≤ a.length → a.length ≤ b.length → b.length < f → b.length ≤ 64 → wt a < 16777216 → wt b < 16777216 →
    (rooF 2 old f a.length b.length kn path).2.2 = true → (rooF 2 old f a.length b.length kn path).1 = rootF 2 a → (rooF 2 old f a.length b.length kn path).2.1 = rootF 2 b → a = b.take a.length
  | 0, a, b, kn, path, _, _, h, _, _, _, _, _, _ => by omega
  | f + 1, a, b, kn, path, h1, hab, h, h64, wa, wb, hok, hwas, his => by
    have inj : ∀ {x y : List (List UInt8)}, x.length ≤ 64 → y.length ≤ 64 → wt x < 16777216 → wt y < 16777216 → rootF 2 x = rootF 2 y → x = y := fun h1 h2 w1 w2 e => (rootF_iff h1 h2 w1 w2).1 e
    by_cases hn : a.length = b.length
    · rw [hn, List.take_length]
      rw [hn] at hok hwas his
      cases kn with
      | true =>
        rw [rooF_kn] at hwas his
        exact inj (by omega) h64 wa wb (hwas.symm.trans his)
      | false =>
        by_cases hp1 : path.length = 1
        · obtain ⟨x, rfl⟩ : ∃ x, path = [x] := by
            match path, hp1 with
            | [x], _ => exact ⟨x, rfl⟩
          rw [rooF_one] at hwas his
          exact inj (by omega) h64 wa wb (hwas.symm.trans his)
        · rw [rooF_not 2 old f _ path hp1] at hok
          cases hok
    · have hge : 2 ≤ b.length := by omega
      obtain ⟨k1, k2⟩ := halfF_in hge
      have l1 : (b.take (halfF b.length)).length = halfF b.length := by rw [List.length_take]; omega
      have l2 : (b.drop (halfF b.length)).length = b.length - halfF b.length := by rw [List.length_drop]
      have w1 := wt_take_le b (halfF b.length)
      have w2 := wt_drop_le b (halfF b.length)
      have b1 := rootF_big (l := b.take (halfF b.length)) (by omega) (by omega)
      have b2 := rootF_big (l := b.drop (halfF b.length)) (by omega) (by omega)
      rcases List.eq_nil_or_concat path with rfl | ⟨P, q, rfl⟩
      · rw [rooF_nil 2 old f _ _ kn hn] at hok
        cases hok
      · rw [List.concat_eq_append] at *
        rw [rootF_two 2 hge h64] at his
        by_cases hik : a.length ≤ halfF b.length
        · rw [rooF_lo 2 old f _ _ kn q P hn hik] at hok hwas his
          unfold joinLo at hok hwas his
          split at hok
          · rename_i hb
            rw [if_pos hb] at hwas his
            have hc : (pairF 2 (rooF 2 old f a.length (halfF b.length) kn P).2.1 q).2 = 0 := by simpa using hok
            have hp := (pair_inj hc his b1 b2).1
            have ih := ext_sound old f a (b.take (halfF b.length)) kn P h1 (by omega) (by omega) (by omega) wa (by omega) (by rw [l1]; exact hb) (by rw [l1]; exact hwas) (by rw [l1]; exact hp)
            rw [List.take_take, Nat.min_eq_left hik] at ih
            exact ih
          · cases hok
        · rw [rooF_hi 2 old f _ _ kn q P hn hik] at hok hwas his
          unfold joinHi at hok hwas his
          split at hok
          · rename_i hb
            rw [if_pos hb] at hwas his
            simp only [Bool.and_eq_true, beq_iff_eq] at hok
            have hmid := halfF_mid hge (by omega) hab
            have hga : 2 ≤ a.length := by omega
            have m1 : (a.take (halfF b.length)).length = halfF b.length := by rw [List.length_take]; omega
            have m2 : (a.drop (halfF b.length)).length = a.length - halfF b.length := by rw [List.length_drop]
            have v1 := wt_take_le a (halfF b.length)
            have v2 := wt_drop_le a (halfF b.length)
            have c1 := rootF_big (l := a.take (halfF b.length)) (by omega) (by omega)
            have c2 := rootF_big (l := a.drop (halfF b.length)) (by omega) (by omega)
            rw [rootF_two 2 hga (by omega), hmid] at hwas
            obtain ⟨p1, p2⟩ := pair_inj (by omega) hwas c1 c2
            obtain ⟨p3, p4⟩ := pair_inj (by omega) his b1 b2
            have e1 := inj (by omega) (by omega) (by omega) (by omega) (p1.symm.trans p3)
            have ih := ext_sound old f (a.drop (halfF b.length)) (b.drop (halfF b.length)) false P (by omega) (by omega) (by omega) (by omega) (by omega) (by omega)
              (by rw [m2, l2]; exact hb) (by rw [m2, l2]; exact p2) (by rw [m2, l2]; exact p4)
            rw [m2] at ih
            have e2 : (b.take a.length).take (halfF b.length) = b.take (halfF b.length) := by rw [List.take_take, Nat.min_eq_left (by omega)]
            have e3 : (b.take a.length).drop (halfF b.length) = (b.drop (halfF b.length)).take (a.length - halfF b.length) := by rw [List.drop_take]
            rw [← List.take_append_drop (halfF b.length) a, e1, ih]
            conv => rhs; rw [List.length_append, List.length_take, List.length_take, l2, show min (halfF b.length) b.length + min (a.length - halfF b.length) (b.length - halfF b.length) = a.length by omega, ← List.take_append_drop (halfF b.length) (b.take a.length), e2, e3]
          · cases hok
theorem extG_few (m : Int) : ∀ (f d : Nat) (l : List (List UInt8)) (k : Nat) (kn : Bool), 1 ≤ k → k ≤ l.length → l.length ≤ 2 ^ d → (extG m f l k kn).length ≤ d + 1
  | 0, d, l, k, kn, _, _, _ => Nat.zero_le _
  | f + 1, d, l, k, kn, h1, hk, h => by
    unfold extG
    split
    · split <;> simp
    · rename_i h0
      have h2 : 2 ≤ l.length := by omega
      obtain ⟨k1, k2⟩ := halfF_in h2
      obtain ⟨⟨j, hj⟩, h3⟩ := halfF_spec h2
      cases d with
      | zero => simp at h; omega
      | succ d =>
        have hkk : halfF l.length ≤ 2 ^ d := by
          rw [hj]
          exact pow_le (by omega)
        split
        · have := extG_few m f d (l.take (halfF l.length)) k kn h1 (by rw [List.length_take]; omega) (by rw [List.length_take]; omega)
          simp; omega
        · have := extG_few m f d (l.drop (halfF l.length)) (k - halfF l.length) false (by omega) (by rw [List.length_drop]; omega) (by rw [List.length_drop]; omega)
          simp; omega
theorem extF_few (m : Int) {l : List (List UInt8)} {k : Nat} (hk : k ≤ l.length) (h : l.length ≤ 32) : (extF m l k).length ≤ 6 := by
  unfold extF
  split
  · simp
  · exact extG_few m 65 5 l k true (by omega) hk h
theorem chkE_right (m : Int) {l : List (List UInt8)} {k : Nat} (hk : k ≤ l.length) (h64 : l.length ≤ 64) (hw : wt l ≤ 16777216) : chkE m (rootF m (l.take k)) k (rootF m l) l.length (extF m l k) = 0 := by
  unfold chkE extF
  by_cases h0 : k = 0
  · subst h0
    rw [if_pos rfl, if_pos rfl, if_pos ⟨rfl, beq_self_eq_true _⟩]
  · rw [if_neg h0, if_neg h0, ext_right m _ 65 l k true (by omega) hk (by omega) h64 hw (fun _ => rfl)]
    simp
theorem chkE_sound {a b : List (List UInt8)} {path : List (List UInt8)} (hab : a.length ≤ b.length) (h64 : b.length ≤ 64) (wa : wt a < 16777216) (wb : wt b < 16777216) (h : chkE 2 (rootF 2 a) a.length (rootF 2 b) b.length path = 0) : a = b.take a.length := by
  unfold chkE at h
  by_cases h0 : a.length = 0
  · have : a = [] := List.eq_nil_of_length_eq_zero h0
    rw [this]; rfl
  · rw [if_neg h0] at h
    split at h
    · rename_i hb
      simp only [Bool.and_eq_true, beq_iff_eq] at hb
      exact ext_sound _ 65 a b true path (by omega) hab (by omega) h64 wa wb hb.1.1 hb.1.2 hb.2
    · cases h
end Go.Proofs.YtfkkamkhjbfjmaaDoor
