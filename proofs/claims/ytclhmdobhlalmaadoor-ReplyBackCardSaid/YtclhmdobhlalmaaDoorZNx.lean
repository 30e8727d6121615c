/-
  Where a reader stands: what is left is a tail of what was there. No program in sight.
-/
import Derived.Test.YtclhmdobhlalmaaDoorZRd2
namespace Go.Proofs.YtclhmdobhlalmaaDoor
set_option linter.unusedSimpArgs false
set_option linter.unusedVariables false
open Go.RowKit

/-- A reader of l stands at a, and u is what it will read, each byte turned by f. -/
def AtU (l : List UInt8) (f : UInt8) (a : Nat) (u : List UInt8) : Prop := a ≤ l.length ∧ (l.drop a).map (fun c => c ^^^ f) = u
theorem AtU.len {l u : List UInt8} {f : UInt8} {a : Nat} (h : AtU l f a u) : u.length + a = l.length := by
  obtain ⟨h1, rfl⟩ := h
  rw [List.length_map, List.length_drop]
  omega
theorem AtU.cons {l u : List UInt8} {f c : UInt8} {a : Nat} (h : AtU l f a (c :: u)) : ∃ c0, l[a]? = some c0 ∧ c0 ^^^ f = c ∧ AtU l f (a + 1) u := by
  have hl := h.len
  rw [List.length_cons] at hl
  obtain ⟨h1, h2⟩ := h
  have hlt : a < l.length := by omega
  rw [List.drop_eq_getElem_cons hlt] at h2
  injection h2 with h3 h4
  exact ⟨l[a], List.getElem?_eq_getElem hlt, h3, by omega, h4⟩
theorem AtU.suf {l u r : List UInt8} {f : UInt8} {a : Nat} (h : AtU l f a u) (hr : r <:+ u) : AtU l f (l.length - r.length) r := by
  have hl := h.len
  obtain ⟨p, hp⟩ := hr
  have hpl : p.length + r.length = u.length := by rw [← hp, List.length_append]
  obtain ⟨h1, h2⟩ := h
  refine ⟨by omega, ?_⟩
  have e : l.length - r.length = a + p.length := by omega
  rw [e, ← List.drop_drop, List.map_drop, h2, ← hp, List.drop_left]
theorem numU_suf : ∀ (k : Nat) (n : UInt64) (s : List UInt8), (numU k n s).2.2 <:+ s
  | 0, n, s => List.suffix_refl s
  | k + 1, n, [] => List.suffix_refl []
  | k + 1, n, c :: s => (numU_suf k _ s).trans (List.suffix_cons c s)
theorem txtU_suf : ∀ (n : Nat) (o s : List UInt8), s.length ≤ n → (txtU o s).2.2 <:+ s
  | n, o, [], _ => List.suffix_refl []
  | 0, o, c :: s, h => by simp at h
  | n + 1, o, c :: s, h => by
    rw [List.length_cons] at h
    by_cases hc : c = 0
    · subst hc
      cases s with
      | nil => exact List.nil_suffix
      | cons d s =>
        rw [List.length_cons] at h
        rw [txtU_z]
        have hs : s <:+ 0 :: d :: s := (List.suffix_cons d s).trans (List.suffix_cons 0 _)
        split
        · exact hs
        split
        · split
          · exact hs
          · exact (txtU_suf n _ s (by omega)).trans hs
        · exact hs
    · rw [txtU_c _ hc]
      split
      · exact List.suffix_cons c s
      · exact (txtU_suf n _ s (by omega)).trans (List.suffix_cons c s)
theorem textU_suf (s : List UInt8) : (textU s).2.2 <:+ s := by
  have h := txtU_suf _ [] s (Nat.le_refl _)
  unfold textU
  split
  · split
    · exact h
    · exact h
  · exact h
theorem finU_rest (v : Vl) (r : List UInt8) : (finU v r).2.2 = r := by
  unfold finU
  split <;> rfl
theorem kindU_suf (c : UInt8) (s : List UInt8) : (kindU c s).2.2 <:+ s := by
  unfold kindU
  split
  · exact List.suffix_refl s
  split
  · cases s with
    | nil => exact List.suffix_refl []
    | cons d r =>
      show (finU _ r).2.2 <:+ _
      rw [finU_rest]
      exact List.suffix_cons d r
  split
  · split
    · rw [finU_rest]; exact numU_suf 8 0 s
    · exact numU_suf 8 0 s
  split
  · split
    · rw [finU_rest]; exact numU_suf 8 0 s
    · exact numU_suf 8 0 s
  split
  · split
    · rw [finU_rest]; exact textU_suf s
    · exact textU_suf s
  · exact List.suffix_refl s
theorem readU_suf : ∀ s : List UInt8, (readU s).2.2 <:+ s
  | [] => List.suffix_refl []
  | c :: s => (kindU_suf c s).trans (List.suffix_cons c s)
end Go.Proofs.YtclhmdobhlalmaaDoor
