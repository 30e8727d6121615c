/-
  Open roots of two lists are the same just if the lists are. Plain laws.
-/
import Derived.Test.YtfkkamkhjbfjmaaDoorZRoll
import Derived.Test.YtfkkamkhjbfjmaaDoorZF
namespace Go.Proofs.YtfkkamkhjbfjmaaDoor
set_option linter.unusedSimpArgs false
set_option linter.unusedVariables false

theorem wt_mem : ∀ {l : List (List UInt8)} {p : List UInt8}, p ∈ l → p.length ≤ wt l
  | q :: l, p, h => by
    simp only [wt, List.map_cons, List.sum_cons]
    rcases List.mem_cons.1 h with rfl | h
    · omega
    · have := wt_mem h
      simp only [wt] at this
      omega
theorem rootG_inj : ∀ (f g : Nat) (a b : List (List UInt8)), a.length < f → b.length < g → wt a < 16777216 → wt b < 16777216 → rootG 2 f a = rootG 2 g b → a = b
  | 0, _, a, _, h, _, _, _, _ => by omega
  | _ + 1, 0, _, b, _, h, _, _, _ => by omega
  | f + 1, g + 1, a, b, ha, hb, wa, wb, h => by
    have two : ∀ (t : Int) (x y : List UInt8), x.length < 4294967296 → y.length < 4294967296 → ∀ p ∈ [x, y], p.length < 4294967296 := fun _ x y h1 h2 p hp => by
      simp only [List.mem_cons, List.not_mem_nil, or_false] at hp
      rcases hp with rfl | rfl
      · exact h1
      · exact h2
    have one : ∀ (x : List UInt8), x.length < 4294967296 → ∀ p ∈ [x], p.length < 4294967296 := fun x h1 p hp => by
      simp only [List.mem_cons, List.not_mem_nil, or_false] at hp
      rw [hp]; exact h1
    have big : ∀ (f : Nat) (l : List (List UInt8)), wt l < 16777216 → (rootG 2 f l).length < 4294967296 := fun f l hl => by
      cases l with
      | nil =>
        cases f with
        | zero => show 0 < _; omega
        | succ f =>
          show (dig 2 4 []).length < _
          have := dig_len 2 4 []
          simp only [sumL, List.map_nil, List.sum_nil] at this
          omega
      | cons p l =>
        have := rootG_len 2 f (p :: l) (by simp)
        omega
    have halves : ∀ (l : List (List UInt8)) (k : Nat), wt (l.take k) ≤ wt l ∧ wt (l.drop k) ≤ wt l := fun l k => by
      have := wt_split l k
      omega
    match a, b, h, ha, hb, wa, wb with
    | [], [], _, _, _, _, _ => rfl
    | [], [q], h, _, _, _, wb =>
      have h : frameB 4 [] = frameB 5 [q] := h
      have := (frameB_inj (by simp) (by simp) (by simp) (one q (by have := wt_mem (l := [q]) (p := q) (by simp); omega)) h).1
      simp at this
    | [], q :: q2 :: b, h, _, _, _, wb =>
      have h : frameB 4 [] = frameB 6 _ := h
      have := (frameB_inj (by simp) (by simp) (by simp) (two 0 _ _ (big _ _ (by have := (halves (q :: q2 :: b) (halfF (q :: q2 :: b).length)).1; omega)) (big _ _ (by have := (halves (q :: q2 :: b) (halfF (q :: q2 :: b).length)).2; omega))) h).1
      simp at this
    | [p], [], h, _, _, wa, _ =>
      have h : frameB 5 [p] = frameB 4 [] := h
      have := (frameB_inj (by simp) (by simp) (one p (by have := wt_mem (l := [p]) (p := p) (by simp); omega)) (by simp) h).1
      simp at this
    | [p], [q], h, _, _, wa, wb =>
      have h : frameB 5 [p] = frameB 5 [q] := h
      exact (frameB_inj (by simp) (by simp) (one p (by have := wt_mem (l := [p]) (p := p) (by simp); omega)) (one q (by have := wt_mem (l := [q]) (p := q) (by simp); omega)) h).2
    | [p], q :: q2 :: b, h, _, _, wa, wb =>
      have h : frameB 5 [p] = frameB 6 _ := h
      have := (frameB_inj (by simp) (by simp) (one p (by have := wt_mem (l := [p]) (p := p) (by simp); omega)) (two 0 _ _ (big _ _ (by have := (halves (q :: q2 :: b) (halfF (q :: q2 :: b).length)).1; omega)) (big _ _ (by have := (halves (q :: q2 :: b) (halfF (q :: q2 :: b).length)).2; omega))) h).1
      simp at this
    | p :: p2 :: a, [], h, _, _, wa, _ =>
      have h : frameB 6 _ = frameB 4 [] := h
      have := (frameB_inj (by simp) (by simp) (two 0 _ _ (big _ _ (by have := (halves (p :: p2 :: a) (halfF (p :: p2 :: a).length)).1; omega)) (big _ _ (by have := (halves (p :: p2 :: a) (halfF (p :: p2 :: a).length)).2; omega))) (by simp) h).1
      simp at this
    | p :: p2 :: a, [q], h, _, _, wa, wb =>
      have h : frameB 6 _ = frameB 5 [q] := h
      have := (frameB_inj (by simp) (by simp) (two 0 _ _ (big _ _ (by have := (halves (p :: p2 :: a) (halfF (p :: p2 :: a).length)).1; omega)) (big _ _ (by have := (halves (p :: p2 :: a) (halfF (p :: p2 :: a).length)).2; omega))) (one q (by have := wt_mem (l := [q]) (p := q) (by simp); omega)) h).1
      simp at this
    | p :: p2 :: a, q :: q2 :: b, h, ha, hb, wa, wb =>
      have h : frameB 6 [rootG 2 f ((p :: p2 :: a).take (halfF (p :: p2 :: a).length)), rootG 2 f ((p :: p2 :: a).drop (halfF (p :: p2 :: a).length))] = frameB 6 [rootG 2 g ((q :: q2 :: b).take (halfF (q :: q2 :: b).length)), rootG 2 g ((q :: q2 :: b).drop (halfF (q :: q2 :: b).length))] := h
      have ka := halves (p :: p2 :: a) (halfF (p :: p2 :: a).length)
      have kb := halves (q :: q2 :: b) (halfF (q :: q2 :: b).length)
      obtain ⟨la, la2⟩ := halfF_in (n := (p :: p2 :: a).length) (by simp)
      obtain ⟨lb, lb2⟩ := halfF_in (n := (q :: q2 :: b).length) (by simp)
      have e := (frameB_inj (by simp) (by simp) (two 0 _ _ (big _ _ (by omega)) (big _ _ (by omega))) (two 0 _ _ (big _ _ (by omega)) (big _ _ (by omega))) h).2
      simp only [List.cons.injEq, and_true] at e
      have e1 := rootG_inj f g _ _ (by rw [List.length_take]; omega) (by rw [List.length_take]; omega) (by omega) (by omega) e.1
      have e2 := rootG_inj f g _ _ (by rw [List.length_drop]; omega) (by rw [List.length_drop]; omega) (by omega) (by omega) e.2
      rw [← List.take_append_drop (halfF (p :: p2 :: a).length) (p :: p2 :: a), e1, e2, List.take_append_drop]
theorem rootF_iff {a b : List (List UInt8)} (ha : a.length ≤ 64) (hb : b.length ≤ 64) (wa : wt a < 16777216) (wb : wt b < 16777216) : rootF 2 a = rootF 2 b ↔ a = b :=
  ⟨fun h => rootG_inj 65 65 a b (by omega) (by omega) wa wb h, fun h => by rw [h]⟩
theorem wt_le (n : Nat) : ∀ l : List (List UInt8), (∀ p ∈ l, p.length ≤ n) → wt l ≤ l.length * (42 + n)
  | [], _ => by simp [wt]
  | p :: l, h => by
    have h1 := wt_le n l fun q hq => h q (by simp [hq])
    have h2 := h p (by simp)
    simp only [wt, List.map_cons, List.sum_cons, List.length_cons] at *
    rw [Nat.add_mul]
    omega
end Go.Proofs.YtfkkamkhjbfjmaaDoor
