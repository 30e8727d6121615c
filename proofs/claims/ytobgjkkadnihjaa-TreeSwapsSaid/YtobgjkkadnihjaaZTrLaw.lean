/-
  A tree as laid nodes: plain laws. No condition but the shape.
-/
import Derived.Test.YtobgjkkadnihjaaZTrNs
import Derived.Test.YtobgjkkadnihjaaZTrIt
namespace Go.Proofs.Ytobgjkkadnihjaa
set_option linter.unusedSimpArgs false
set_option linter.unusedVariables false

mutual
theorem lies_lay : ∀ (t : Tn) (pre post : List Nd), Lies (pre ++ (layN pre.length t ++ post)) pre.length t
  | .node ks vs ts, pre, post => by
    rw [layN]
    refine ⟨(layF (pre.length + 1) ts).1, by simp, ?_⟩
    have := liesF_lay ts (pre ++ [⟨ks, vs, (layF (pre.length + 1) ts).1⟩]) post
    rw [List.length_append, List.length_singleton] at this
    rw [List.append_assoc, List.singleton_append] at this
    exact this
theorem liesF_lay : ∀ (ts : List Tn) (pre post : List Nd), LiesF (pre ++ ((layF pre.length ts).2 ++ post)) (layF pre.length ts).1 ts
  | [], pre, post => by rw [layF]; rfl
  | t :: ts, pre, post => by
    rw [layF]
    refine ⟨pre.length, _, rfl, ?_, ?_⟩
    · have := lies_lay t pre ((layF (pre.length + (layN pre.length t).length) ts).2 ++ post)
      rw [List.append_assoc]
      exact this
    · have := liesF_lay ts (pre ++ layN pre.length t) post
      rw [List.length_append] at this
      rw [List.append_assoc]
      rw [List.append_assoc] at this
      exact this
end
mutual
def depN (d : Nat) : Tn → List Nat
  | .node _ _ ts => d :: depF (d + 1) ts
def depF (d : Nat) : List Tn → List Nat
  | [] => []
  | t :: ts => depN d t ++ depF d ts
end
mutual
theorem depN_len : ∀ (t : Tn) (a d : Nat), (depN d t).length = (layN a t).length
  | .node ks vs ts, a, d => by rw [depN, layN, List.length_cons, List.length_cons, depF_len ts (a + 1) (d + 1)]
theorem depF_len : ∀ (ts : List Tn) (a d : Nat), (depF d ts).length = (layF a ts).2.length
  | [], a, d => by rw [depF, layF]; rfl
  | t :: ts, a, d => by rw [depF, layF, List.length_append, List.length_append, depN_len t a d, depF_len ts (a + (layN a t).length) d]
end
theorem getD_left {l1 l2 : List Nat} {i : Nat} (h : i < l1.length) : (l1 ++ l2).getD i 0 = l1.getD i 0 := by
  rw [List.getD_eq_getElem?_getD, List.getD_eq_getElem?_getD, List.getElem?_append_left h]
theorem getD_right {l1 l2 : List Nat} {i : Nat} (h : l1.length ≤ i) : (l1 ++ l2).getD i 0 = l2.getD (i - l1.length) 0 := by
  rw [List.getD_eq_getElem?_getD, List.getD_eq_getElem?_getD, List.getElem?_append_right h]
theorem getD_succ {x : Nat} {l : List Nat} {i : Nat} : (x :: l).getD (i + 1) 0 = l.getD i 0 := by
  rw [List.getD_eq_getElem?_getD, List.getD_eq_getElem?_getD, List.getElem?_cons_succ]
mutual
theorem kid_lay : ∀ (t : Tn) (a d i : Nat) (n : Nd), (layN a t)[i]? = some n → ∀ k ∈ n.kids, a + i < k ∧ k < a + (layN a t).length ∧ (depN d t).getD (k - a) 0 = (depN d t).getD i 0 + 1
  | .node ks vs ts, a, d, i, n, hi, k, hk => by
    rw [layN] at hi ⊢
    rw [depN]
    obtain ⟨f1, f2⟩ := kidF_lay ts (a + 1) (d + 1)
    cases i with
    | zero =>
      simp only [List.getElem?_cons_zero, Option.some.injEq] at hi
      subst hi
      obtain ⟨z1, z2, z3⟩ := f1 k hk
      refine ⟨by omega, by rw [List.length_cons]; omega, ?_⟩
      rw [show k - a = (k - (a + 1)) + 1 by omega, getD_succ, z3]
      rfl
    | succ i =>
      rw [List.getElem?_cons_succ] at hi
      obtain ⟨z1, z2, z3⟩ := f2 i n hi k hk
      refine ⟨by omega, by rw [List.length_cons]; omega, ?_⟩
      rw [show k - a = (k - (a + 1)) + 1 by omega, getD_succ, getD_succ, z3]
theorem kidF_lay : ∀ (ts : List Tn) (a d : Nat), (∀ k ∈ (layF a ts).1, a ≤ k ∧ k < a + (layF a ts).2.length ∧ (depF d ts).getD (k - a) 0 = d) ∧
    ∀ (i : Nat) (n : Nd), (layF a ts).2[i]? = some n → ∀ k ∈ n.kids, a + i < k ∧ k < a + (layF a ts).2.length ∧ (depF d ts).getD (k - a) 0 = (depF d ts).getD i 0 + 1
  | [], a, d => by rw [layF]; exact ⟨fun k hk => (by cases hk), fun i n hi => (by simp at hi)⟩
  | t :: ts, a, d => by
    obtain ⟨f1, f2⟩ := kidF_lay ts (a + (layN a t).length) d
    have ft := kid_lay t a d
    have hl := depN_len t a d
    have h0 : 0 < (layN a t).length := by cases t; rw [layN]; simp
    have hd0 : (depN d t).getD 0 0 = d := by cases t; rw [depN]; rfl
    rw [layF, depF]
    dsimp only
    rw [List.length_append]
    refine ⟨fun k hk => ?_, fun i n hi k hk => ?_⟩
    · rcases List.mem_cons.1 hk with rfl | hk
      · refine ⟨Nat.le_refl _, by omega, ?_⟩
        rw [Nat.sub_self, getD_left (by omega), hd0]
      · obtain ⟨z1, z2, z3⟩ := f1 k hk
        refine ⟨by omega, by omega, ?_⟩
        rw [getD_right (by omega), hl, show k - a - (layN a t).length = k - (a + (layN a t).length) by omega, z3]
    · by_cases h : i < (layN a t).length
      · rw [List.getElem?_append_left h] at hi
        obtain ⟨z1, z2, z3⟩ := ft i n hi k hk
        refine ⟨z1, by omega, ?_⟩
        rw [getD_left (by omega), getD_left (by omega), z3]
      · rw [List.getElem?_append_right (by omega)] at hi
        obtain ⟨z1, z2, z3⟩ := f2 _ n hi k hk
        refine ⟨by omega, by omega, ?_⟩
        rw [getD_right (by omega), getD_right (by omega), hl, show k - a - (layN a t).length = k - (a + (layN a t).length) by omega, z3]
end
theorem lay_pos (t : Tn) (a : Nat) : 1 ≤ (layN a t).length := by cases t; rw [layN]; simp
mutual
theorem once_lay : ∀ (t : Tn) (a : Nat), ((layN a t).flatMap (·.kids)).Perm (List.range' (a + 1) ((layN a t).length - 1))
  | .node ks vs ts, a => by
    rw [layN, List.flatMap_cons, List.length_cons, Nat.add_sub_cancel]
    exact onceF_lay ts (a + 1)
theorem onceF_lay : ∀ (ts : List Tn) (a : Nat), ((layF a ts).1 ++ (layF a ts).2.flatMap (·.kids)).Perm (List.range' a (layF a ts).2.length)
  | [], a => by rw [layF]; exact List.Perm.refl _
  | t :: ts, a => by
    have h1 := once_lay t a
    have h2 := onceF_lay ts (a + (layN a t).length)
    have h0 := lay_pos t a
    rw [layF]
    dsimp only
    generalize (layF (a + (layN a t).length) ts).1 = K at *
    generalize (layF (a + (layN a t).length) ts).2 = F at *
    rw [List.flatMap_append, List.length_append, List.cons_append]
    generalize (layN a t).flatMap (·.kids) = L1 at *
    generalize F.flatMap (·.kids) = L2 at *
    generalize (layN a t).length = n at *
    have e1 : List.range' a (n + F.length) = a :: (List.range' (a + 1) (n - 1) ++ List.range' (a + n) F.length) := by
      obtain ⟨m, rfl⟩ : ∃ m, n = m + 1 := ⟨n - 1, by omega⟩
      rw [Nat.add_sub_cancel, show m + 1 + F.length = (m + F.length) + 1 by omega, List.range'_succ]
      rw [← List.range'_append_1, show a + (m + 1) = a + 1 + m by omega]
    rw [e1]
    refine List.Perm.cons _ ?_
    have e2 : (K ++ (L1 ++ L2)).Perm (L1 ++ (K ++ L2)) := by
      rw [← List.append_assoc, ← List.append_assoc]
      exact List.Perm.append_right _ List.perm_append_comm
    exact e2.trans (List.Perm.append h1 h2)
end
theorem layF_len1 : ∀ (ts : List Tn) (a : Nat), (layF a ts).1.length = ts.length
  | [], a => by rw [layF]; rfl
  | t :: ts, a => by rw [layF]; simp [layF_len1 ts]
theorem mem_layF : ∀ {ts : List Tn} {a : Nat} {n : Nd}, n ∈ (layF a ts).2 → ∃ t ∈ ts, ∃ b, n ∈ layN b t
  | [], a, n, h => by rw [layF] at h; cases h
  | t :: ts, a, n, h => by
    rw [layF] at h
    rcases List.mem_append.1 h with h | h
    · exact ⟨t, by simp, a, h⟩
    · obtain ⟨t', h1, b, h2⟩ := mem_layF h
      exact ⟨t', by simp [h1], b, h2⟩
theorem shape_lay : ∀ (h : Nat) (t : Tn), Sh h t → ∀ (a : Nat), ∀ n ∈ layN a t, 1 ≤ n.ks.length ∧ n.ks.length ≤ 3 ∧ n.vs.length = n.ks.length ∧ (n.kids.length = 0 ∨ n.kids.length = n.ks.length + 1)
  | 0, .node ks vs ts, hs, a, n, hn => by
    obtain ⟨h1, h2, h3, rfl⟩ := hs
    rw [layN] at hn
    rcases List.mem_cons.1 hn with rfl | hn
    · exact ⟨h2, h3, h1, .inl (by rw [layF_len1]; rfl)⟩
    · rw [layF] at hn; cases hn
  | h + 1, .node ks vs ts, hs, a, n, hn => by
    obtain ⟨h1, h2, h3, h4, h5⟩ := hs
    rw [layN] at hn
    rcases List.mem_cons.1 hn with rfl | hn
    · exact ⟨h2, h3, h1, .inr (by rw [layF_len1]; exact h4)⟩
    · obtain ⟨t, ht, b, hb⟩ := mem_layF hn
      exact shape_lay h t (h5 t ht) b n hb
theorem leafF {h : Nat} (ih : ∀ t : Tn, Sh h t → ∀ (a d i : Nat) (n : Nd), (layN a t)[i]? = some n → n.kids = [] → (depN d t).getD i 0 = d + h) :
    ∀ (ts : List Tn), (∀ t ∈ ts, Sh h t) → ∀ (a d i : Nat) (n : Nd), (layF a ts).2[i]? = some n → n.kids = [] → (depF d ts).getD i 0 = d + h
  | [], _, a, d, i, n, hi, _ => by rw [layF] at hi; simp at hi
  | t :: ts, hs, a, d, i, n, hi, hk => by
    rw [layF] at hi
    rw [depF]
    dsimp only at hi
    have hl := depN_len t a d
    by_cases h : i < (layN a t).length
    · rw [List.getElem?_append_left h] at hi
      rw [getD_left (by omega)]
      exact ih t (hs t (by simp)) a d i n hi hk
    · rw [List.getElem?_append_right (by omega)] at hi
      rw [getD_right (by omega), hl]
      exact leafF ih ts (fun t ht => hs t (by simp [ht])) _ d _ n hi hk
theorem leaf_lay : ∀ (h : Nat) (t : Tn), Sh h t → ∀ (a d i : Nat) (n : Nd), (layN a t)[i]? = some n → n.kids = [] → (depN d t).getD i 0 = d + h
  | 0, .node ks vs ts, hs, a, d, i, n, hi, hk => by
    obtain ⟨h1, h2, h3, rfl⟩ := hs
    rw [layN, layF] at hi
    rw [depN, depF]
    cases i with
    | zero => rfl
    | succ i => simp at hi
  | h + 1, .node ks vs ts, hs, a, d, i, n, hi, hk => by
    obtain ⟨h1, h2, h3, h4, h5⟩ := hs
    rw [layN] at hi
    rw [depN]
    cases i with
    | zero =>
      simp only [List.getElem?_cons_zero, Option.some.injEq] at hi
      subst hi
      have := layF_len1 ts (a + 1)
      have hk : (layF (a + 1) ts).1 = [] := hk
      rw [hk] at this
      simp at this
      omega
    | succ i =>
      rw [List.getElem?_cons_succ] at hi
      rw [getD_succ, leafF (leaf_lay h) ts h5 (a + 1) (d + 1) i n hi hk]
      omega
theorem deepF {h : Nat} (ih : ∀ t : Tn, Sh h t → ∀ (d j : Nat), (depN d t).getD j 0 ≤ d + h) : ∀ (ts : List Tn), (∀ t ∈ ts, Sh h t) → ∀ (d j : Nat), (depF d ts).getD j 0 ≤ d + h
  | [], _, d, j => by rw [depF]; simp
  | t :: ts, hs, d, j => by
    rw [depF]
    by_cases h : j < (depN d t).length
    · rw [getD_left h]; exact ih t (hs t (by simp)) d j
    · rw [getD_right (by omega)]; exact deepF ih ts (fun t ht => hs t (by simp [ht])) d _
theorem deep_lay : ∀ (h : Nat) (t : Tn), Sh h t → ∀ (d j : Nat), (depN d t).getD j 0 ≤ d + h
  | 0, .node ks vs ts, hs, d, j => by
    obtain ⟨h1, h2, h3, rfl⟩ := hs
    rw [depN, depF]
    cases j with
    | zero => exact Nat.le_refl _
    | succ j => rw [getD_succ]; simp
  | h + 1, .node ks vs ts, hs, d, j => by
    obtain ⟨h1, h2, h3, h4, h5⟩ := hs
    rw [depN]
    cases j with
    | zero => show d ≤ _; omega
    | succ j =>
      rw [getD_succ]
      have := deepF (deep_lay h) ts h5 (d + 1) j
      omega
theorem high_lay : ∀ (h : Nat) (t : Tn), Sh h t → ∀ a : Nat, h < (layN a t).length
  | 0, t, _, a => lay_pos t a
  | h + 1, .node ks vs ts, hs, a => by
    obtain ⟨h1, h2, h3, h4, h5⟩ := hs
    rw [layN, List.length_cons]
    cases ts with
    | nil => simp at h4
    | cons t ts =>
      have := high_lay h t (h5 t (by simp)) (a + 1)
      rw [layF]
      dsimp only
      rw [List.length_append]
      omega
end Go.Proofs.Ytobgjkkadnihjaa

