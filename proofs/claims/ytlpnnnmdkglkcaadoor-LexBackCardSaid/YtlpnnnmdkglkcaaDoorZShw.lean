/-
  Expressions as tokens, and tokens as expressions. No program in sight.
-/
import Derived.Test.YtlpnnnmdkglkcaaDoorZEx
set_option linter.unusedSimpArgs false
set_option linter.unusedVariables false
namespace Go.Proofs.YtlpnnnmdkglkcaaDoor

structure Tk where
  k : Int
  t : ByteArray
  n : Int
  b : Nat
deriving DecidableEq
def Tk.cs (t : Tk) : List D := [iD t.k, strD t.t, iD t.n, qD t.b]
abbrev toksD (l : List Tk) : D := .sl 4 (l.map Tk.cs)
abbrev wordT (l : List UInt8) : Tk := ⟨2, ⟨l.toArray⟩, 0, 0⟩
abbrev qDL (l : List UInt8) : Tk := ⟨6, ⟨l.toArray⟩, 0, 0⟩
abbrev lpT : Tk := qDL [40]
abbrev rpT : Tk := qDL [41]
abbrev cmT : Tk := qDL [44]
abbrev mnT : Tk := qDL [45]
abbrev notW : Tk := wordT [78, 79, 84]
abbrev isW : Tk := wordT [73, 83]
abbrev nullW : Tk := wordT [78, 85, 76, 76]
abbrev trueW : Tk := wordT [84, 82, 85, 69]
abbrev falseW : Tk := wordT [70, 65, 76, 83, 69]
abbrev lenW : Tk := wordT [76, 69, 78, 71, 84, 72]
abbrev coaW : Tk := wordT [67, 79, 65, 76, 69, 83, 67, 69]
def lvl (op : Nat) : Nat :=
  if op = 16 then 1 else if op = 15 then 2 else if op = 4 then 3 else if (9 ≤ op ∧ op ≤ 14) ∨ op = 17 then 4 else if op = 19 then 5 else if op = 5 ∨ op = 6 then 6 else
  if op = 7 ∨ op = 8 then 7 else if op = 3 then 8 else 9
def markT (op : Nat) : Tk :=
  if op = 16 then wordT [79, 82] else if op = 15 then wordT [65, 78, 68] else if op = 9 then qDL [61] else if op = 10 then qDL [60, 62] else if op = 11 then qDL [60] else
  if op = 12 then qDL [60, 61] else if op = 13 then qDL [62] else if op = 14 then qDL [62, 61] else if op = 19 then qDL [124, 124] else if op = 5 then qDL [43] else
  if op = 6 then qDL [45] else if op = 7 then qDL [42] else qDL [47]
inductive Pr where
  | ok (x : Ex) (j : Nat)
  | bad (p e : Nat)
  | out
def Pr.then (r : Pr) (f : Ex → Nat → Pr) : Pr := match r with
  | .ok x j => f x j
  | .bad p e => .bad p e
  | .out => .out
def failT (T : List Tk) (i : Nat) : Pr := .bad i (if T.length ≤ i then 4 else 3)
def wantT (T : List Tk) (t : Tk) (i : Nat) (K : Nat → Pr) : Pr := if T[i]? = some t then K (i + 1) else failT T i
def pickOp (T : List Tk) : List Nat → Nat → Option Nat
  | [], _ => none
  | op :: l, i => if T[i]? = some (markT op) then some op else pickOp T l i
def chn (T : List Tk) (next : Nat → Pr) (ops : List Nat) : Nat → Ex → Nat → Pr
  | 0, _, _ => .out
  | g + 1, e, i => match pickOp T ops i with
    | none => .ok e i
    | some op => (next (i + 1)).then fun e2 k => chn T next ops g (.bi op e e2) k
def chainT (T : List Tk) (next : Nat → Pr) (ops : List Nat) (i : Nat) : Pr := (next i).then fun e k => chn T next ops (T.length + 1) e k
def cmpOps : List Nat := [9, 10, 11, 12, 13, 14]
def firstT (T : List Tk) (R : Nat → Pr) (i : Nat) : Pr :=
  if T[i]? = some nullW then .ok (.lit ⟨0, 0, 0, .empty⟩) (i + 1) else
  if T[i]? = some trueW then .ok (.lit ⟨1, 1, 0, .empty⟩) (i + 1) else
  if T[i]? = some falseW then .ok (.lit ⟨1, 0, 0, .empty⟩) (i + 1) else
  if T[i]? = some lpT then (R (i + 1)).then fun e j => wantT T rpT j fun j => .ok e j else
  if T[i]? = some lenW then wantT T lpT (i + 1) fun i => (R i).then fun e j => wantT T rpT j fun j => .ok (.un 18 e) j else
  if T[i]? = some coaW then wantT T lpT (i + 1) fun i => (R i).then fun a j => wantT T cmT j fun j => (R j).then fun b j => wantT T rpT j fun j => .ok (.bi 20 a b) j else
  match T[i]? with
  | none => failT T i
  | some t => if t.k = 1 then .ok (.col t.t) (i + 1) else if t.k = 3 then .ok (.lit ⟨2, t.n, 0, .empty⟩) (i + 1) else if t.k = 5 then .ok (.lit ⟨3, 0, t.b, .empty⟩) (i + 1) else
    if t.k = 4 then .ok (.lit ⟨4, 0, 0, t.t⟩) (i + 1) else failT T i
def cmpT' (T : List Tk) (R : Nat → Pr) (i : Nat) : Pr := (R i).then fun e j =>
  if T[j]? = some isW then wantT T nullW (j + 1) fun j => .ok (.un 17 e) j else
  match pickOp T cmpOps j with
  | none => .ok e j
  | some op => (R (j + 1)).then fun e2 k => .ok (.bi op e e2) k
def preT (T : List Tk) (t : Tk) (op : Nat) (R S : Nat → Pr) (i : Nat) : Pr := if T[i]? = some t then (R (i + 1)).then fun e j => .ok (.un op e) j else S i
def stepT (T : List Tk) (R : Nat → Nat → Pr) (lv i : Nat) : Pr :=
  if lv = 1 then chainT T (R 2) [16] i else if lv = 2 then chainT T (R 3) [15] i else if lv = 3 then preT T notW 4 (R 3) (R 4) i else if lv = 4 then cmpT' T (R 5) i else
  if lv = 5 then chainT T (R 6) [19] i else if lv = 6 then chainT T (R 7) [5, 6] i else if lv = 7 then chainT T (R 8) [7, 8] i else if lv = 8 then preT T mnT 3 (R 8) (R 9) i else firstT T (R 1) i
def rd (T : List Tk) : Nat → Nat → Nat → Pr
  | 0 => fun _ _ => .out
  | f + 1 => stepT T (rd T f)

def Stop (k : Nat) (T : List Tk) (j : Nat) : Prop := (∀ op, bi2 op → op ≠ 20 → k ≤ lvl op → T[j]? ≠ some (markT op)) ∧ (k ≤ 4 → T[j]? ≠ some isW)
theorem Stop.mono {k l : Nat} {T : List Tk} {j : Nat} (h : Stop k T j) (hk : k ≤ l) : Stop l T j := ⟨fun op h1 h2 h3 => h.1 op h1 h2 (Nat.le_trans hk h3), fun h4 => h.2 (Nat.le_trans hk h4)⟩
theorem Stop.end {k : Nat} {T : List Tk} {j : Nat} (h : T.length ≤ j) : Stop k T j := by
  rw [Stop, List.getElem?_eq_none h]
  exact ⟨fun _ _ _ _ => by simp, fun _ => by simp⟩
def Here (T : List Tk) (i : Nat) (l : List Tk) : Prop := ∀ n, n < l.length → T[i + n]? = l[n]?
theorem Here.app {T : List Tk} {i : Nat} {l m : List Tk} (h : Here T i (l ++ m)) : Here T i l ∧ Here T (i + l.length) m := by
  refine ⟨fun n hn => ?_, fun n hn => ?_⟩
  · rw [h n (by rw [List.length_append]; omega), List.getElem?_append_left hn]
  · rw [Nat.add_assoc, h (l.length + n) (by rw [List.length_append]; omega), List.getElem?_append_right (by omega), Nat.add_sub_cancel_left]
theorem Here.cons {T : List Tk} {i : Nat} {t : Tk} {m : List Tk} (h : Here T i (t :: m)) : T[i]? = some t ∧ Here T (i + 1) m := by
  have h1 := (Here.app (l := [t]) (m := m) h)
  exact ⟨h1.1 0 (by show 0 < 1; decide), h1.2⟩
end Go.Proofs.YtlpnnnmdkglkcaaDoor

