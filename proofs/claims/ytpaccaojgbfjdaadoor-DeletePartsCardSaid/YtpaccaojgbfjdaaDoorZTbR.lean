/-
  The rows of a table as they are told. No program in sight.
-/
import Derived.Test.YtpaccaojgbfjdaaDoorZTbF
set_option linter.unusedSimpArgs false
set_option linter.unusedVariables false
namespace Go.Proofs.YtpaccaojgbfjdaaDoor

def KeyL (l : List (List Vl)) : Prop := ∀ p ∈ l, ∃ k r, p = numV k :: r
def qBS (o : Bool) (d : List Ce) (acc : List (List Vl)) : List (List Vl) := if o = true then qE4 acc.length acc d else acc
def rowC (r : List Vl) : List D := [qBz r]
abbrev qEP (l : List (List Vl)) : D := .sl 1 (l.map rowC)
theorem qEX (s : Nat) (c : Ce) : ∀ (d : List Ce) (acc : List (List Vl)), qE4 s acc (d ++ [c]) = if c.full = true then insF (qE4 s acc d) s c.row else qE4 s acc d
  | [], acc => rfl
  | e :: d, acc => by
    show qE4 s _ (d ++ [c]) = _
    rw [qEX s c d]
    rfl
theorem stepF_zero (o : Bool) (d : List Ce) (acc : List (List Vl)) : qBS o (d.take 0) acc = acc := by
  unfold qBS
  split <;> rfl
theorem stepF_off {d : List Ce} {acc : List (List Vl)} : qBS false d acc = acc := rfl
theorem take_one {d : List Ce} {c : Ce} {k : Nat} (h : d[k]? = some c) : d.take (k + 1) = d.take k ++ [c] := by rw [List.take_add_one, h]; rfl
theorem stepF_free {d : List Ce} {acc : List (List Vl)} {k : Nat} {r : List Vl} (h : d[k]? = some ⟨false, r⟩) : qBS true (d.take (k + 1)) acc = qBS true (d.take k) acc := by
  unfold qBS
  rw [if_pos rfl, if_pos rfl, take_one h, qEX]
  rfl
theorem stepF_full {d : List Ce} {acc : List (List Vl)} {k : Nat} {r : List Vl} (h : d[k]? = some ⟨true, r⟩) : qBS true (d.take (k + 1)) acc = insF (qBS true (d.take k) acc) acc.length r := by
  unfold qBS
  rw [if_pos rfl, if_pos rfl, take_one h, qEX]
  rfl
theorem insJ_len (acc : List (List Vl)) (s : Nat) (r : List Vl) : ∀ j, j ≤ acc.length → (insJ acc s r j).length = acc.length + 1
  | 0, _ => rfl
  | j + 1, h => by
    unfold insJ
    split
    · exact insJ_len acc s r j (by omega)
    · rw [List.length_append, List.length_cons, List.length_take, List.length_drop]
      omega
theorem insJ_mem (acc : List (List Vl)) (s : Nat) (r : List Vl) : ∀ j x, x ∈ insJ acc s r j → x = r ∨ x ∈ acc
  | 0, x, h => List.mem_cons.1 h
  | j + 1, x, h => by
    unfold insJ at h
    split at h
    · exact insJ_mem acc s r j x h
    · rcases List.mem_append.1 h with h | h
      · exact .inr (List.mem_of_mem_take h)
      · rcases List.mem_cons.1 h with h | h
        · exact .inl h
        · exact .inr (List.mem_of_mem_drop h)
theorem KeyL.ins {acc : List (List Vl)} {s : Nat} {r : List Vl} (h : KeyL acc) (hr : ∃ k l, r = numV k :: l) : KeyL (insF acc s r) := by
  intro p hp
  rcases insJ_mem _ _ _ _ _ hp with rfl | hp
  · exact hr
  · exact h p hp
theorem qFl {cols : List Cl} (hk : ∃ n l, cols = ⟨n, 2, false⟩ :: l) (o : Bool) {d : List Ce} (hd : ∀ c ∈ d, CeOk cols c) {acc : List (List Vl)} (h : KeyL acc) : KeyL (qBS o d acc) ∧ (qBS o d acc).length ≤ acc.length + d.length := by
  unfold qBS
  split
  · have go : ∀ (s : Nat) (d : List Ce) (acc : List (List Vl)), (∀ c ∈ d, CeOk cols c) → KeyL acc → KeyL (qE4 s acc d) ∧ (qE4 s acc d).length ≤ acc.length + d.length := by
      intro s d
      induction d with
      | nil => intro acc _ h; exact ⟨h, Nat.le_refl _⟩
      | cons c d ih =>
        intro acc hd h
        unfold qE4
        rw [List.length_cons]
        split
        · rename_i hf
          have h2 := ih _ (fun e he => hd e (by simp [he])) (h.ins (s := s) (qDx ((hd c (by simp)).fit hf) hk))
          refine ⟨h2.1, Nat.le_trans h2.2 ?_⟩
          unfold insF
          rw [insJ_len _ _ _ _ (Nat.le_refl _)]
          omega
        · have h2 := ih _ (fun e he => hd e (by simp [he])) h
          exact ⟨h2.1, by omega⟩
    exact go _ d acc hd h
  · exact ⟨h, by omega⟩
def midF (q : List (List Vl)) (r : List Vl) (j : Nat) : List (List Vl) := q.take j ++ r :: q.drop j
theorem midF_end (q : List (List Vl)) (r : List Vl) : midF q r q.length = q ++ [r] := by unfold midF; rw [List.take_length, List.drop_length]
theorem midF_at {q : List (List Vl)} {r : List Vl} {j : Nat} (h : j ≤ q.length) : (midF q r j)[j]? = some r := by
  unfold midF
  rw [List.getElem?_append_right (by rw [List.length_take]; omega), List.length_take, show j - min j q.length = 0 by omega]
  rfl
theorem midF_pre {q : List (List Vl)} {r p : List Vl} {j : Nat} (h : q[j]? = some p) : (midF q r (j + 1))[j]? = some p := by
  have hl := (List.getElem?_eq_some_iff.1 h).1
  unfold midF
  rw [List.getElem?_append_left (by rw [List.length_take]; omega), List.getElem?_take, if_pos (by omega), h]
theorem qFz {q : List (List Vl)} {r : List Vl} {j : Nat} (h : j ≤ q.length) : (midF q r j).length = q.length + 1 := by
  unfold midF
  rw [List.length_append, List.length_cons, List.length_take, List.length_drop]
  omega
theorem midF_swap {q : List (List Vl)} {r p : List Vl} {j : Nat} (h : q[j]? = some p) : ((midF q r (j + 1)).set (j + 1) p).set j r = midF q r j := by
  have hl := (List.getElem?_eq_some_iff.1 h).1
  have e1 : q.take (j + 1) = q.take j ++ [p] := by rw [List.take_add_one, h]; rfl
  have e2 : q.drop j = p :: q.drop (j + 1) := by
    rw [List.drop_eq_getElem_cons hl]
    congr 1
    have := List.getElem?_eq_getElem hl
    rw [h] at this
    injection this with this
    exact this.symm
  have hlt : (q.take j).length = j := by rw [List.length_take]; omega
  unfold midF
  rw [e1, e2]
  generalize q.take j = u at *
  subst hlt
  generalize q.drop (u.length + 1) = v
  clear e1 e2 h hl
  induction u with
  | nil => rfl
  | cons x u ih => exact congrArg (x :: ·) ih
theorem insJ_at {q : List (List Vl)} {s : Nat} {r : List Vl} {j : Nat} (h : ¬ s < j) : insJ q s r j = midF q r j := by
  cases j with
  | zero => rfl
  | succ j => unfold insJ; rw [if_neg (by omega)]; rfl
theorem insJ_here {q : List (List Vl)} {s : Nat} {r p : List Vl} {j : Nat} (h : q[j]? = some p) (hk : ¬ keyN r < keyN p) : insJ q s r (j + 1) = midF q r (j + 1) := by
  unfold insJ
  rw [if_neg (by rw [List.getD_eq_getElem?_getD, h]; exact fun h2 => hk h2.2)]
  rfl
theorem insJ_down {q : List (List Vl)} {s : Nat} {r p : List Vl} {j : Nat} (h : q[j]? = some p) (hs : s < j + 1) (hk : keyN r < keyN p) : insJ q s r (j + 1) = insJ q s r j := by
  conv => lhs; unfold insJ
  rw [if_pos (by rw [List.getD_eq_getElem?_getD, h]; exact ⟨hs, hk⟩)]
end Go.Proofs.YtpaccaojgbfjdaaDoor

