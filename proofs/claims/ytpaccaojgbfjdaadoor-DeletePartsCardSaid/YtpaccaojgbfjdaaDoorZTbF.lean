/-
  Tables whose rows lie in drawers. No program in sight.
-/
import Derived.Test.YtpaccaojgbfjdaaDoorZEv5R
import Derived.Test.YtpaccaojgbfjdaaDoorZV
set_option linter.unusedSimpArgs false
set_option linter.unusedVariables false
namespace Go.Proofs.YtpaccaojgbfjdaaDoor

structure Ce where
  full : Bool
  row : List Vl
def Ce.cs (c : Ce) : List D := [bD c.full, qBz c.row]
def keyV (r : List Vl) : Vl := r.headD nullV
abbrev keyN (r : List Vl) : Int := (keyV r).n
structure Tb where
  name : ByteArray
  cols : List Cl
  a : List Ce
  b : List Ce
def Tb.cs (t : Tb) : List D := [bD true, strD t.name, qAY t.cols] ++ (t.a.flatMap Ce.cs ++ t.b.flatMap Ce.cs)
structure CeOk (cols : List Cl) (c : Ce) : Prop where
  fit : c.full = true → FitR c.row cols
  none : c.full = false → c.row = []
structure DrOk (cols : List Cl) (d : List Ce) : Prop where
  len : d.length = 4
  ok : ∀ c ∈ d, CeOk cols c
  keys : d.Pairwise fun c e => c.full = true → e.full = true → keyN c.row ≠ keyN e.row
structure TbOk (t : Tb) : Prop where
  name : qDj t.name
  cols : ColsOk t.cols
  key : ∃ n l, t.cols = ⟨n, 2, false⟩ :: l
  a : DrOk t.cols t.a
  b : DrOk t.cols t.b
theorem qDx {cols : List Cl} {row : List Vl} (h : FitR row cols) (hk : ∃ n l, cols = ⟨n, 2, false⟩ :: l) : ∃ k l, row = numV k :: l := by
  obtain ⟨n, l, rfl⟩ := hk
  cases row with
  | nil => have := h.len; simp at this
  | cons v r =>
    obtain ⟨hg, hf⟩ := h.fit 0 v _ rfl rfl
    have hv : v.k = 2 := by
      rcases hf with hf | ⟨_, hf⟩
      · exact hf
      · cases hf
    exact ⟨v.n, r, by rw [← hg.int_n hv]⟩
def insJ (acc : List (List Vl)) (start : Nat) (r : List Vl) : Nat → List (List Vl)
  | 0 => r :: acc
  | j + 1 => if start < j + 1 ∧ keyN r < keyN (acc.getD j []) then insJ acc start r j else acc.take (j + 1) ++ r :: acc.drop (j + 1)
def insF (acc : List (List Vl)) (start : Nat) (r : List Vl) : List (List Vl) := insJ acc start r acc.length
def qE4 (start : Nat) : List (List Vl) → List Ce → List (List Vl)
  | acc, [] => acc
  | acc, c :: d => qE4 start (if c.full = true then insF acc start c.row else acc) d
def ordI (r : List Vl) : List (List Vl) → List (List Vl)
  | [] => [r]
  | p :: l => if keyN r < keyN p then r :: p :: l else p :: ordI r l
def Rise (l : List (List Vl)) : Prop := l.Pairwise fun p q => keyN p < keyN q
theorem qFC {r x : List Vl} : ∀ {l : List (List Vl)}, x ∈ ordI r l ↔ x = r ∨ x ∈ l
  | [] => by simp [ordI]
  | p :: l => by
    unfold ordI
    split
    · simp
    · rw [List.mem_cons, qFC (l := l), List.mem_cons]
      constructor
      · rintro (h | h | h)
        · exact .inr (.inl h)
        · exact .inl h
        · exact .inr (.inr h)
      · rintro (h | h | h)
        · exact .inr (.inl h)
        · exact .inl h
        · exact .inr (.inr h)
theorem ordI_rise {r : List Vl} : ∀ {l : List (List Vl)}, Rise l → (∀ p ∈ l, keyN p ≠ keyN r) → Rise (ordI r l)
  | [], _, _ => List.pairwise_singleton _ _
  | p :: l, h, hn => by
    unfold Rise at h
    rw [List.pairwise_cons] at h
    unfold ordI
    split
    · rename_i hlt
      unfold Rise
      rw [List.pairwise_cons, List.pairwise_cons]
      refine ⟨fun q hq => ?_, h.1, h.2⟩
      rcases List.mem_cons.1 hq with rfl | hq
      · exact hlt
      · have := h.1 q hq; omega
    · rename_i hlt
      have hp := hn p (by simp)
      unfold Rise
      rw [List.pairwise_cons]
      refine ⟨fun q hq => ?_, ordI_rise h.2 fun q hq => hn q (by simp [hq])⟩
      rcases qFC.1 hq with rfl | hq
      · omega
      · exact h.1 q hq
theorem ordI_snoc {r : List Vl} : ∀ {l : List (List Vl)}, (∀ p ∈ l, ¬ keyN r < keyN p) → ordI r l = l ++ [r]
  | [], _ => rfl
  | p :: l, h => by
    unfold ordI
    rw [if_neg (h p (by simp)), ordI_snoc fun q hq => h q (by simp [hq])]
    rfl
theorem ordI_app {r p : List Vl} (h : keyN r < keyN p) : ∀ l : List (List Vl), ordI r (l ++ [p]) = ordI r l ++ [p]
  | [] => by
    show ordI r [p] = [r] ++ [p]
    unfold ordI
    rw [if_pos h]
    rfl
  | q :: l => by
    rw [List.cons_append]
    unfold ordI
    split
    · rfl
    · rw [ordI_app h l]; rfl
theorem insJ_stop (acc : List (List Vl)) (r : List Vl) (j : Nat) : insJ acc j r j = acc.take j ++ r :: acc.drop j := by
  cases j with
  | zero => rfl
  | succ n => unfold insJ; rw [if_neg (by omega)]
theorem insJ_step {pre s : List (List Vl)} {r : List Vl} (hs : Rise s) : ∀ (j : Nat), j ≤ s.length → (∀ p ∈ s.drop j, keyN r < keyN p) → insJ (pre ++ s) pre.length r (pre.length + j) = pre ++ (ordI r (s.take j) ++ s.drop j)
  | 0, _, hall => by
    rw [Nat.add_zero, insJ_stop, List.take_left, List.drop_left]
    rfl
  | j + 1, hj, hall => by
    have hlt : j < s.length := by omega
    obtain ⟨p, hp⟩ : ∃ p, s[j]? = some p := ⟨_, List.getElem?_eq_getElem hlt⟩
    have hg : (pre ++ s).getD (pre.length + j) [] = p := by
      rw [List.getD_eq_getElem?_getD, List.getElem?_append_right (by omega), show pre.length + j - pre.length = j by omega, hp]
      rfl
    have ht : s.take (j + 1) = s.take j ++ [p] := by rw [List.take_add_one, hp]; rfl
    have hd : s.drop j = p :: s.drop (j + 1) := by
      rw [List.drop_eq_getElem_cons hlt]
      congr 1
      have := List.getElem?_eq_getElem hlt
      rw [hp] at this
      injection this with this
      exact this.symm
    show insJ (pre ++ s) pre.length r (pre.length + j + 1) = _
    rw [insJ, hg]
    by_cases h : keyN r < keyN p
    · rw [if_pos ⟨by omega, h⟩, insJ_step hs j (by omega) fun q hq => by
        rw [hd] at hq
        rcases List.mem_cons.1 hq with rfl | hq
        · exact h
        · exact hall q hq]
      rw [ht, ordI_app h, hd, List.append_assoc]
      rfl
    · rw [if_neg fun h2 => h h2.2]
      have e1 : (pre ++ s).take (pre.length + j + 1) = pre ++ s.take (j + 1) := by rw [Nat.add_assoc, List.take_length_add_append]
      have e2 : (pre ++ s).drop (pre.length + j + 1) = s.drop (j + 1) := by rw [Nat.add_assoc, List.drop_length_add_append]
      rw [e1, e2, ordI_snoc fun q hq => ?_, List.append_assoc, List.append_assoc]
      · rfl
      · rw [ht] at hq
        rcases List.mem_append.1 hq with hq | hq
        · obtain ⟨i, hi⟩ := List.getElem?_of_mem hq
          rw [List.getElem?_take] at hi
          split at hi
          · obtain ⟨l1, e1⟩ := List.getElem?_eq_some_iff.1 hi
            obtain ⟨l2, e2⟩ := List.getElem?_eq_some_iff.1 hp
            have := List.pairwise_iff_getElem.1 hs i j l1 l2 (by omega)
            rw [e1, e2] at this
            omega
          · cases hi
        · rw [List.mem_singleton] at hq
          subst hq
          exact h
theorem insF_ord {pre s : List (List Vl)} {r : List Vl} (hs : Rise s) : insF (pre ++ s) pre.length r = pre ++ ordI r s := by
  unfold insF
  rw [List.length_append, insJ_step hs s.length (Nat.le_refl _) (by rw [List.drop_length]; intro p hp; cases hp), List.take_length, List.drop_length, List.append_nil]
def rowsD (d : List Ce) : List (List Vl) := qE4 0 [] d
theorem qEu (pre : List (List Vl)) : ∀ (d : List Ce) (s : List (List Vl)), Rise s → (∀ c ∈ d, c.full = true → ∀ p ∈ s, keyN p ≠ keyN c.row) → (d.Pairwise fun c e => c.full = true → e.full = true → keyN c.row ≠ keyN e.row) →
    ∃ s', Rise s' ∧ qE4 pre.length (pre ++ s) d = pre ++ s' ∧ (∀ x, x ∈ s' ↔ x ∈ s ∨ ∃ c ∈ d, c.full = true ∧ c.row = x)
  | [], s, hs, _, _ => ⟨s, hs, rfl, fun x => by simp⟩
  | c :: d, s, hs, hn, hp => by
    rw [List.pairwise_cons] at hp
    by_cases hc : c.full = true
    · have h1 := ordI_rise hs (hn c (by simp) hc)
      obtain ⟨s', g1, g2, g3⟩ := qEu pre d (ordI c.row s) h1 (fun e he hf p hpm => by
        rcases qFC.1 hpm with rfl | hpm
        · exact hp.1 e he hc hf
        · exact hn e (by simp [he]) hf p hpm) hp.2
      refine ⟨s', g1, ?_, fun x => ?_⟩
      · unfold qE4
        rw [if_pos hc, insF_ord hs]
        exact g2
      · rw [g3, qFC]
        constructor
        · rintro ((h | h) | ⟨e, he, h⟩)
          · exact .inr ⟨c, by simp, hc, h.symm⟩
          · exact .inl h
          · exact .inr ⟨e, by simp [he], h⟩
        · rintro (h | ⟨e, he, h⟩)
          · exact .inl (.inr h)
          · rcases List.mem_cons.1 he with rfl | he
            · exact .inl (.inl h.2.symm)
            · exact .inr ⟨e, he, h⟩
    · obtain ⟨s', g1, g2, g3⟩ := qEu pre d s hs (fun e he => hn e (by simp [he])) hp.2
      refine ⟨s', g1, ?_, fun x => ?_⟩
      · unfold qE4
        rw [if_neg hc]
        exact g2
      · rw [g3]
        constructor
        · rintro (h | ⟨e, he, h⟩)
          · exact .inl h
          · exact .inr ⟨e, by simp [he], h⟩
        · rintro (h | ⟨e, he, h⟩)
          · exact .inl h
          · rcases List.mem_cons.1 he with rfl | he
            · exact absurd h.1 hc
            · exact .inr ⟨e, he, h⟩
theorem rise_eq : ∀ {l m : List (List Vl)}, Rise l → Rise m → (∀ x, x ∈ l ↔ x ∈ m) → l = m
  | [], [], _, _, _ => rfl
  | [], y :: m, _, _, h => absurd ((h y).2 (by simp)) (by simp)
  | x :: l, [], _, _, h => absurd ((h x).1 (by simp)) (by simp)
  | x :: l, y :: m, hl, hm, h => by
    unfold Rise at hl hm
    rw [List.pairwise_cons] at hl hm
    have hxy : x = y := by
      rcases List.mem_cons.1 ((h x).1 (by simp)) with e | e
      · exact e
      · rcases List.mem_cons.1 ((h y).2 (by simp)) with e2 | e2
        · exact e2.symm
        · have := hm.1 x e
          have := hl.1 y e2
          omega
    subst hxy
    rw [rise_eq hl.2 hm.2 fun z => ?_]
    have hz := h z
    simp only [List.mem_cons] at hz
    constructor
    · intro hzl
      rcases hz.1 (.inr hzl) with e | e
      · subst e; have := hl.1 z hzl; omega
      · exact e
    · intro hzm
      rcases hz.2 (.inr hzm) with e | e
      · subst e; have := hm.1 z hzm; omega
      · exact e
end Go.Proofs.YtpaccaojgbfjdaaDoor

