/-
  Trees of keys, as plain functions. No condition.
-/
import Derived.Test.YtobgjkkadnihjaaZTr2
import Derived.Test.YtobgjkkadnihjaaZTrNil
namespace Go.Proofs.Ytobgjkkadnihjaa
set_option linter.unusedSimpArgs false
set_option linter.unusedVariables false

/-- A node that has become too large is cut in two. -/
def splitN : List ByteArray → List Int → List Tn → Tn × Option (ByteArray × Int × Tn)
  | [a, b, c, d], [x, y, z, w], [] => (.node [a, b] [x, y] [], some (c, z, .node [d] [w] []))
  | [a, b, c, d], [x, y, z, w], [p, q, r, s, t] => (.node [a, b] [x, y] [p, q, r], some (c, z, .node [d] [w] [s, t]))
  | ks, vs, ts => (.node ks vs ts, none)
def Tn.kids : Tn → List Tn
  | .node _ _ ts => ts
def noTn : Tn := .node [] [] []
def putH (key : ByteArray) (val : Int) : Nat → Tn → Tn × Option (ByteArray × Int × Tn)
  | h, .node ks vs ts =>
    if (seekF key ks).2 = true then (.node ks (vs.set (seekF key ks).1 val) ts, none)
    else match h with
      | 0 => splitN (insL ks (seekF key ks).1 key) (insL vs (seekF key ks).1 val) []
      | h + 1 => match putH key val h (ts.getD (seekF key ks).1 noTn) with
        | (t', none) => (.node ks vs (ts.set (seekF key ks).1 t'), none)
        | (t', some (m, v, r)) => splitN (insL ks (seekF key ks).1 m) (insL vs (seekF key ks).1 v) (insL (ts.set (seekF key ks).1 t') ((seekF key ks).1 + 1) r)
/-- The shape of a tree whose leaves are all equally deep. -/
def Sh : Nat → Tn → Prop
  | 0, .node ks vs ts => vs.length = ks.length ∧ 1 ≤ ks.length ∧ ks.length ≤ 3 ∧ ts = []
  | h + 1, .node ks vs ts => vs.length = ks.length ∧ 1 ≤ ks.length ∧ ks.length ≤ 3 ∧ ts.length = ks.length + 1 ∧ ∀ t ∈ ts, Sh h t
theorem seekF_le (key : ByteArray) : ∀ l : List ByteArray, (seekF key l).1 ≤ l.length
  | [] => Nat.le_refl _
  | k :: r => by
    unfold seekF
    split
    · exact Nat.zero_le _
    · have := seekF_le key r
      simp only [List.length_cons]
      omega
theorem seekF_lt (key : ByteArray) : ∀ l : List ByteArray, (seekF key l).2 = true → (seekF key l).1 < l.length
  | [], h => by cases h
  | k :: r, h => by
    unfold seekF at h ⊢
    split
    · simp
    · rename_i hc
      rw [if_neg hc] at h
      have := seekF_lt key r h
      simp only [List.length_cons]
      omega
theorem insL_len {α : Type} (l : List α) (i : Nat) (x : α) (h : i ≤ l.length) : (insL l i x).length = l.length + 1 := by
  unfold insL
  rw [List.length_append, List.length_cons, List.length_take, List.length_drop]
  omega
theorem four {α : Type} {l : List α} (h : l.length = 4) : ∃ a b c d, l = [a, b, c, d] := by
  match l, h with
  | [a, b, c, d], _ => exact ⟨a, b, c, d, rfl⟩
theorem five {α : Type} {l : List α} (h : l.length = 5) : ∃ a b c d e, l = [a, b, c, d, e] := by
  match l, h with
  | [a, b, c, d, e], _ => exact ⟨a, b, c, d, e, rfl⟩
theorem splitN_few {ks : List ByteArray} {vs : List Int} {ts : List Tn} (h : ks.length ≠ 4) : splitN ks vs ts = (.node ks vs ts, none) := by
  unfold splitN
  split
  · exact absurd rfl h
  · exact absurd rfl h
  · rfl
end Go.Proofs.Ytobgjkkadnihjaa

