/-
  Expressions as tokens, and tokens as expressions. No program in sight.
-/
import Derived.Test.YtlpnnnmdkglkcaaDoorZEx
set_option linter.unusedSimpArgs false
set_option linter.unusedVariables false
namespace Go.Proofs.YtlpnnnmdkglkcaaDoor

structure Tk where
  k : Int
  t : ByteArray
  n : Int
  b : Nat
deriving DecidableEq
def Tk.cs (t : Tk) : List D := [iD t.k, strD t.t, iD t.n, qD t.b]
abbrev qAs (l : List Tk) : D := .sl 4 (l.map Tk.cs)
abbrev qFo (l : List UInt8) : Tk := ⟨2, ⟨l.toArray⟩, 0, 0⟩
abbrev qDQ (l : List UInt8) : Tk := ⟨6, ⟨l.toArray⟩, 0, 0⟩
abbrev lpT : Tk := qDQ [40]
abbrev rpT : Tk := qDQ [41]
abbrev cmT : Tk := qDQ [44]
abbrev mnT : Tk := qDQ [45]
abbrev notW : Tk := qFo [78, 79, 84]
abbrev isW : Tk := qFo [73, 83]
abbrev qDt : Tk := qFo [78, 85, 76, 76]
abbrev trueW : Tk := qFo [84, 82, 85, 69]
abbrev qE9 : Tk := qFo [70, 65, 76, 83, 69]
abbrev lenW : Tk := qFo [76, 69, 78, 71, 84, 72]
abbrev coaW : Tk := qFo [67, 79, 65, 76, 69, 83, 67, 69]
def lvl (op : Nat) : Nat :=
  if op = 16 then 1 else if op = 15 then 2 else if op = 4 then 3 else if (9 ≤ op ∧ op ≤ 14) ∨ op = 17 then 4 else if op = 19 then 5 else if op = 5 ∨ op = 6 then 6 else
  if op = 7 ∨ op = 8 then 7 else if op = 3 then 8 else 9
def qCr (op : Nat) : Tk :=
  if op = 16 then qFo [79, 82] else if op = 15 then qFo [65, 78, 68] else if op = 9 then qDQ [61] else if op = 10 then qDQ [60, 62] else if op = 11 then qDQ [60] else
  if op = 12 then qDQ [60, 61] else if op = 13 then qDQ [62] else if op = 14 then qDQ [62, 61] else if op = 19 then qDQ [124, 124] else if op = 5 then qDQ [43] else
  if op = 6 then qDQ [45] else if op = 7 then qDQ [42] else qDQ [47]
def litT (v : Vl) : Tk :=
  if v.k = 0 then qDt else if v.k = 1 then (if v.n = 1 then trueW else qE9) else if v.k = 2 then ⟨3, .empty, v.n, 0⟩ else if v.k = 3 then ⟨5, .empty, 0, v.b⟩ else ⟨4, v.t, 0, 0⟩
def qCf (op least : Nat) (l : List Tk) : List Tk := if lvl op < least then lpT :: (l ++ [rpT]) else l
def qDk (l : Nat) : Nat := if l = 4 then 5 else l
def shwB : Ex → List Tk
  | .lit v => [litT v]
  | .col n => [⟨1, n, 0, 0⟩]
  | .un op a => if op = 3 then mnT :: qCf a.op 8 (shwB a) else if op = 4 then notW :: qCf a.op 3 (shwB a) else if op = 17 then qCf a.op 5 (shwB a) ++ [isW, qDt] else lenW :: lpT :: (qCf a.op 1 (shwB a) ++ [rpT])
  | .bi op a b => if op = 20 then coaW :: lpT :: (qCf a.op 1 (shwB a) ++ cmT :: (qCf b.op 1 (shwB b) ++ [rpT])) else qCf a.op (qDk (lvl op)) (shwB a) ++ qCr op :: qCf b.op (lvl op + 1) (shwB b)
def shw (x : Ex) (least : Nat) : List Tk := qCf x.op least (shwB x)
theorem lvl_pos (op : Nat) : 1 ≤ lvl op ∧ lvl op ≤ 9 := by
  unfold lvl
  repeat' split
  all_goals omega
theorem shw_one (x : Ex) : shw x 1 = shwB x := by
  unfold shw qCf
  rw [if_neg (by have := (lvl_pos x.op).1; omega)]
theorem wrap_one (op : Nat) (l : List Tk) : qCf op 1 l = l := if_neg (by have := (lvl_pos op).1; omega)
theorem qEK (op k : Nat) (l : List Tk) : (qCf op k l).length ≤ l.length + 2 := by
  unfold qCf
  split
  · rw [List.length_cons, List.length_append]; exact Nat.le_refl _
  · omega
theorem qEx : ∀ x : Ex, (shwB x).length + 2 ≤ 5 * x.num
  | .lit v => by show 1 + 2 ≤ 5 * 1; omega
  | .col n => by show 1 + 2 ≤ 5 * 1; omega
  | .un op a => by
    have h := qEx a
    have w := fun k => qEK a.op k (shwB a)
    have e : (Ex.un op a).num = 1 + a.num := rfl
    rw [e]
    unfold shwB
    split
    · have := w 8; rw [List.length_cons]; omega
    · split
      · have := w 3; rw [List.length_cons]; omega
      · split
        · have := w 5; rw [List.length_append]; show _ + 2 + 2 ≤ _; omega
        · have := w 1; rw [List.length_cons, List.length_cons, List.length_append]; show _ + 1 + 1 + 1 + 2 ≤ _; omega
  | .bi op a b => by
    have h := qEx a
    have h2 := qEx b
    have w := fun k => qEK a.op k (shwB a)
    have w2 := fun k => qEK b.op k (shwB b)
    have e : (Ex.bi op a b).num = 1 + a.num + b.num := rfl
    rw [e]
    unfold shwB
    split
    · rw [wrap_one, wrap_one, List.length_cons, List.length_cons, List.length_append, List.length_cons, List.length_append]; show _ + (_ + 1 + 1) + 1 + 1 + 2 ≤ _; omega
    · have := w (qDk (lvl op)); have := w2 (lvl op + 1); rw [List.length_append, List.length_cons]; omega
theorem qDx (x : Ex) (k : Nat) : (shw x k).length ≤ 5 * x.num := by
  have := qEK x.op k (shwB x)
  have := qEx x
  unfold shw
  omega

inductive Pr where
  | ok (x : Ex) (j : Nat)
  | bad (p e : Nat)
  | out
def Pr.then (r : Pr) (f : Ex → Nat → Pr) : Pr := match r with
  | .ok x j => f x j
  | .bad p e => .bad p e
  | .out => .out
def qEW (T : List Tk) (i : Nat) : Pr := .bad i (if T.length ≤ i then 4 else 3)
def qDT (T : List Tk) (t : Tk) (i : Nat) (K : Nat → Pr) : Pr := if T[i]? = some t then K (i + 1) else qEW T i
def qCs (T : List Tk) : List Nat → Nat → Option Nat
  | [], _ => none
  | op :: l, i => if T[i]? = some (qCr op) then some op else qCs T l i
def chn (T : List Tk) (next : Nat → Pr) (ops : List Nat) : Nat → Ex → Nat → Pr
  | 0, _, _ => .out
  | g + 1, e, i => match qCs T ops i with
    | none => .ok e i
    | some op => (next (i + 1)).then fun e2 k => chn T next ops g (.bi op e e2) k
def qCl (T : List Tk) (next : Nat → Pr) (ops : List Nat) (i : Nat) : Pr := (next i).then fun e k => chn T next ops (T.length + 1) e k
def qDr : List Nat := [9, 10, 11, 12, 13, 14]
def firstT (T : List Tk) (R : Nat → Pr) (i : Nat) : Pr :=
  if T[i]? = some qDt then .ok (.lit ⟨0, 0, 0, .empty⟩) (i + 1) else
  if T[i]? = some trueW then .ok (.lit ⟨1, 1, 0, .empty⟩) (i + 1) else
  if T[i]? = some qE9 then .ok (.lit ⟨1, 0, 0, .empty⟩) (i + 1) else
  if T[i]? = some lpT then (R (i + 1)).then fun e j => qDT T rpT j fun j => .ok e j else
  if T[i]? = some lenW then qDT T lpT (i + 1) fun i => (R i).then fun e j => qDT T rpT j fun j => .ok (.un 18 e) j else
  if T[i]? = some coaW then qDT T lpT (i + 1) fun i => (R i).then fun a j => qDT T cmT j fun j => (R j).then fun b j => qDT T rpT j fun j => .ok (.bi 20 a b) j else
  match T[i]? with
  | none => qEW T i
  | some t => if t.k = 1 then .ok (.col t.t) (i + 1) else if t.k = 3 then .ok (.lit ⟨2, t.n, 0, .empty⟩) (i + 1) else if t.k = 5 then .ok (.lit ⟨3, 0, t.b, .empty⟩) (i + 1) else
    if t.k = 4 then .ok (.lit ⟨4, 0, 0, t.t⟩) (i + 1) else qEW T i
def cmpT' (T : List Tk) (R : Nat → Pr) (i : Nat) : Pr := (R i).then fun e j =>
  if T[j]? = some isW then qDT T qDt (j + 1) fun j => .ok (.un 17 e) j else
  match qCs T qDr j with
  | none => .ok e j
  | some op => (R (j + 1)).then fun e2 k => .ok (.bi op e e2) k
def preT (T : List Tk) (t : Tk) (op : Nat) (R S : Nat → Pr) (i : Nat) : Pr := if T[i]? = some t then (R (i + 1)).then fun e j => .ok (.un op e) j else S i
def stepT (T : List Tk) (R : Nat → Nat → Pr) (lv i : Nat) : Pr :=
  if lv = 1 then qCl T (R 2) [16] i else if lv = 2 then qCl T (R 3) [15] i else if lv = 3 then preT T notW 4 (R 3) (R 4) i else if lv = 4 then cmpT' T (R 5) i else
  if lv = 5 then qCl T (R 6) [19] i else if lv = 6 then qCl T (R 7) [5, 6] i else if lv = 7 then qCl T (R 8) [7, 8] i else if lv = 8 then preT T mnT 3 (R 8) (R 9) i else firstT T (R 1) i
def rd (T : List Tk) : Nat → Nat → Nat → Pr
  | 0 => fun _ _ => .out
  | f + 1 => stepT T (rd T f)

def Stop (k : Nat) (T : List Tk) (j : Nat) : Prop := (∀ op, bi2 op → op ≠ 20 → k ≤ lvl op → T[j]? ≠ some (qCr op)) ∧ (k ≤ 4 → T[j]? ≠ some isW)
theorem Stop.mono {k l : Nat} {T : List Tk} {j : Nat} (h : Stop k T j) (hk : k ≤ l) : Stop l T j := ⟨fun op h1 h2 h3 => h.1 op h1 h2 (Nat.le_trans hk h3), fun h4 => h.2 (Nat.le_trans hk h4)⟩
theorem Stop.end {k : Nat} {T : List Tk} {j : Nat} (h : T.length ≤ j) : Stop k T j := by
  rw [Stop, List.getElem?_eq_none h]
  exact ⟨fun _ _ _ _ => by simp, fun _ => by simp⟩
def Here (T : List Tk) (i : Nat) (l : List Tk) : Prop := ∀ n, n < l.length → T[i + n]? = l[n]?
theorem Here.app {T : List Tk} {i : Nat} {l m : List Tk} (h : Here T i (l ++ m)) : Here T i l ∧ Here T (i + l.length) m := by
  refine ⟨fun n hn => ?_, fun n hn => ?_⟩
  · rw [h n (by rw [List.length_append]; omega), List.getElem?_append_left hn]
  · rw [Nat.add_assoc, h (l.length + n) (by rw [List.length_append]; omega), List.getElem?_append_right (by omega), Nat.add_sub_cancel_left]
theorem Here.cons {T : List Tk} {i : Nat} {t : Tk} {m : List Tk} (h : Here T i (t :: m)) : T[i]? = some t ∧ Here T (i + 1) m := by
  have h1 := (Here.app (l := [t]) (m := m) h)
  exact ⟨h1.1 0 (by show 0 < 1; decide), h1.2⟩
theorem qC9 {T : List Tk} {j : Nat} : ∀ {ops : List Nat}, (∀ op ∈ ops, T[j]? ≠ some (qCr op)) → qCs T ops j = none
  | [], _ => rfl
  | op :: l, h => by
    unfold qCs
    rw [if_neg (h op List.mem_cons_self)]
    exact qC9 fun o ho => h o (List.mem_cons_of_mem _ ho)
def opsL (L : Nat) : List Nat := if L = 1 then [16] else if L = 2 then [15] else if L = 5 then [19] else if L = 6 then [5, 6] else [7, 8]
def qEw (L : Nat) : Prop := L = 1 ∨ L = 2 ∨ L = 5 ∨ L = 6 ∨ L = 7
theorem step_chain (T : List Tk) (R : Nat → Nat → Pr) {L : Nat} (h : qEw L) (i : Nat) : stepT T R L i = qCl T (R (L + 1)) (opsL L) i := by
  rcases h with rfl | rfl | rfl | rfl | rfl <;> rfl
theorem opsL_mem {L op : Nat} (h : qEw L) : op ∈ opsL L ↔ bi2 op ∧ op ≠ 20 ∧ lvl op = L := by
  constructor
  · intro ho
    rcases h with rfl | rfl | rfl | rfl | rfl <;> simp only [opsL] at ho <;> simp at ho
    · subst ho; exact ⟨by unfold bi2; omega, by decide, rfl⟩
    · subst ho; exact ⟨by unfold bi2; omega, by decide, rfl⟩
    · subst ho; exact ⟨by unfold bi2; omega, by decide, rfl⟩
    · rcases ho with rfl | rfl <;> exact ⟨by unfold bi2; omega, by decide, rfl⟩
    · rcases ho with rfl | rfl <;> exact ⟨by unfold bi2; omega, by decide, rfl⟩
  · rintro ⟨⟨b1, b2, b3, b4⟩, h20, hl⟩
    have ca : op = 5 ∨ op = 6 ∨ op = 7 ∨ op = 8 ∨ op = 9 ∨ op = 10 ∨ op = 11 ∨ op = 12 ∨ op = 13 ∨ op = 14 ∨ op = 15 ∨ op = 16 ∨ op = 19 := by omega
    subst hl
    revert h
    unfold qEw
    rcases ca with rfl | rfl | rfl | rfl | rfl | rfl | rfl | rfl | rfl | rfl | rfl | rfl | rfl <;> decide
theorem shwB_ne : ∀ x : Ex, shwB x ≠ []
  | .lit _ => by simp [shwB]
  | .col _ => by simp [shwB]
  | .un op a => by
    unfold shwB
    repeat' split
    all_goals simp
  | .bi op a b => by
    unfold shwB
    split <;> simp
theorem wrap_ne (op k : Nat) {l : List Tk} (h : l ≠ []) : qCf op k l ≠ [] := by
  unfold qCf
  split
  · simp
  · exact h
end Go.Proofs.YtlpnnnmdkglkcaaDoor

