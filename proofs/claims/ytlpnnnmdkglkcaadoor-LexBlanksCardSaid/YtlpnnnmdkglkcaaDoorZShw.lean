/-
  Expressions as tokens, and tokens as expressions. No program in sight.
-/
import Derived.Test.YtlpnnnmdkglkcaaDoorZEx
namespace Go.Proofs.YtlpnnnmdkglkcaaDoor
set_option linter.unusedSimpArgs false
set_option linter.unusedVariables false

/-- A token. -/
structure Tk where
  k : Int
  t : ByteArray
  n : Int
  b : Nat
deriving DecidableEq
def Tk.cs (t : Tk) : List D := [iD t.k, strD t.t, iD t.n, qD t.b]
abbrev toksD (l : List Tk) : D := .sl 4 (l.map Tk.cs)
abbrev wordT (l : List UInt8) : Tk := ⟨2, ⟨l.toArray⟩, 0, 0⟩
abbrev signT (l : List UInt8) : Tk := ⟨6, ⟨l.toArray⟩, 0, 0⟩
abbrev lpT : Tk := signT [40]
abbrev rpT : Tk := signT [41]
abbrev cmT : Tk := signT [44]
abbrev mnT : Tk := signT [45]
abbrev notW : Tk := wordT [78, 79, 84]
abbrev isW : Tk := wordT [73, 83]
abbrev nullW : Tk := wordT [78, 85, 76, 76]
abbrev trueW : Tk := wordT [84, 82, 85, 69]
abbrev falseW : Tk := wordT [70, 65, 76, 83, 69]
abbrev lenW : Tk := wordT [76, 69, 78, 71, 84, 72]
abbrev coaW : Tk := wordT [67, 79, 65, 76, 69, 83, 67, 69]
/-- How closely an operation binds. -/
def lvl (op : Nat) : Nat :=
  if op = 16 then 1 else if op = 15 then 2 else if op = 4 then 3 else if (9 ≤ op ∧ op ≤ 14) ∨ op = 17 then 4 else if op = 19 then 5 else if op = 5 ∨ op = 6 then 6 else
  if op = 7 ∨ op = 8 then 7 else if op = 3 then 8 else 9
def markT (op : Nat) : Tk :=
  if op = 16 then wordT [79, 82] else if op = 15 then wordT [65, 78, 68] else if op = 9 then signT [61] else if op = 10 then signT [60, 62] else if op = 11 then signT [60] else
  if op = 12 then signT [60, 61] else if op = 13 then signT [62] else if op = 14 then signT [62, 61] else if op = 19 then signT [124, 124] else if op = 5 then signT [43] else
  if op = 6 then signT [45] else if op = 7 then signT [42] else signT [47]
def litT (v : Vl) : Tk :=
  if v.k = 0 then nullW else if v.k = 1 then (if v.n = 1 then trueW else falseW) else if v.k = 2 then ⟨3, .empty, v.n, 0⟩ else if v.k = 3 then ⟨5, .empty, 0, v.b⟩ else ⟨4, v.t, 0, 0⟩
def wrapT (op least : Nat) (l : List Tk) : List Tk := if lvl op < least then lpT :: (l ++ [rpT]) else l
def leftL (l : Nat) : Nat := if l = 4 then 5 else l
/-- An expression as tokens, where one of at least a level may stand; what is within its brackets. -/
def shwB : Ex → List Tk
  | .lit v => [litT v]
  | .col n => [⟨1, n, 0, 0⟩]
  | .un op a => if op = 3 then mnT :: wrapT a.op 8 (shwB a) else if op = 4 then notW :: wrapT a.op 3 (shwB a) else if op = 17 then wrapT a.op 5 (shwB a) ++ [isW, nullW] else lenW :: lpT :: (wrapT a.op 1 (shwB a) ++ [rpT])
  | .bi op a b => if op = 20 then coaW :: lpT :: (wrapT a.op 1 (shwB a) ++ cmT :: (wrapT b.op 1 (shwB b) ++ [rpT])) else wrapT a.op (leftL (lvl op)) (shwB a) ++ markT op :: wrapT b.op (lvl op + 1) (shwB b)
def shw (x : Ex) (least : Nat) : List Tk := wrapT x.op least (shwB x)
theorem lvl_pos (op : Nat) : 1 ≤ lvl op ∧ lvl op ≤ 9 := by
  unfold lvl
  repeat' split
  all_goals omega
theorem shw_one (x : Ex) : shw x 1 = shwB x := by
  unfold shw wrapT
  rw [if_neg (by have := (lvl_pos x.op).1; omega)]
theorem wrap_one (op : Nat) (l : List Tk) : wrapT op 1 l = l := if_neg (by have := (lvl_pos op).1; omega)
theorem wrap_len (op k : Nat) (l : List Tk) : (wrapT op k l).length ≤ l.length + 2 := by
  unfold wrapT
  split
  · rw [List.length_cons, List.length_append]; exact Nat.le_refl _
  · omega
theorem shwB_len : ∀ x : Ex, (shwB x).length + 2 ≤ 5 * x.num
  | .lit v => by show 1 + 2 ≤ 5 * 1; omega
  | .col n => by show 1 + 2 ≤ 5 * 1; omega
  | .un op a => by
    have h := shwB_len a
    have w := fun k => wrap_len a.op k (shwB a)
    have e : (Ex.un op a).num = 1 + a.num := rfl
    rw [e]
    unfold shwB
    split
    · have := w 8; rw [List.length_cons]; omega
    · split
      · have := w 3; rw [List.length_cons]; omega
      · split
        · have := w 5; rw [List.length_append]; show _ + 2 + 2 ≤ _; omega
        · have := w 1; rw [List.length_cons, List.length_cons, List.length_append]; show _ + 1 + 1 + 1 + 2 ≤ _; omega
  | .bi op a b => by
    have h := shwB_len a
    have h2 := shwB_len b
    have w := fun k => wrap_len a.op k (shwB a)
    have w2 := fun k => wrap_len b.op k (shwB b)
    have e : (Ex.bi op a b).num = 1 + a.num + b.num := rfl
    rw [e]
    unfold shwB
    split
    · rw [wrap_one, wrap_one, List.length_cons, List.length_cons, List.length_append, List.length_cons, List.length_append]; show _ + (_ + 1 + 1) + 1 + 1 + 2 ≤ _; omega
    · have := w (leftL (lvl op)); have := w2 (lvl op + 1); rw [List.length_append, List.length_cons]; omega
theorem shw_len (x : Ex) (k : Nat) : (shw x k).length ≤ 5 * x.num := by
  have := wrap_len x.op k (shwB x)
  have := shwB_len x
  unfold shw
  omega

/-- What reading comes to. -/
inductive Pr where
  | ok (x : Ex) (j : Nat)
  | bad (p e : Nat)
  | out
def Pr.then (r : Pr) (f : Ex → Nat → Pr) : Pr := match r with
  | .ok x j => f x j
  | .bad p e => .bad p e
  | .out => .out
def failT (T : List Tk) (i : Nat) : Pr := .bad i (if T.length ≤ i then 4 else 3)
def wantT (T : List Tk) (t : Tk) (i : Nat) (K : Nat → Pr) : Pr := if T[i]? = some t then K (i + 1) else failT T i
def pickOp (T : List Tk) : List Nat → Nat → Option Nat
  | [], _ => none
  | op :: l, i => if T[i]? = some (markT op) then some op else pickOp T l i
def chn (T : List Tk) (next : Nat → Pr) (ops : List Nat) : Nat → Ex → Nat → Pr
  | 0, _, _ => .out
  | g + 1, e, i => match pickOp T ops i with
    | none => .ok e i
    | some op => (next (i + 1)).then fun e2 k => chn T next ops g (.bi op e e2) k
def chainT (T : List Tk) (next : Nat → Pr) (ops : List Nat) (i : Nat) : Pr := (next i).then fun e k => chn T next ops (T.length + 1) e k
def cmpOps : List Nat := [9, 10, 11, 12, 13, 14]
def firstT (T : List Tk) (R : Nat → Pr) (i : Nat) : Pr :=
  if T[i]? = some nullW then .ok (.lit ⟨0, 0, 0, .empty⟩) (i + 1) else
  if T[i]? = some trueW then .ok (.lit ⟨1, 1, 0, .empty⟩) (i + 1) else
  if T[i]? = some falseW then .ok (.lit ⟨1, 0, 0, .empty⟩) (i + 1) else
  if T[i]? = some lpT then (R (i + 1)).then fun e j => wantT T rpT j fun j => .ok e j else
  if T[i]? = some lenW then wantT T lpT (i + 1) fun i => (R i).then fun e j => wantT T rpT j fun j => .ok (.un 18 e) j else
  if T[i]? = some coaW then wantT T lpT (i + 1) fun i => (R i).then fun a j => wantT T cmT j fun j => (R j).then fun b j => wantT T rpT j fun j => .ok (.bi 20 a b) j else
  match T[i]? with
  | none => failT T i
  | some t => if t.k = 1 then .ok (.col t.t) (i + 1) else if t.k = 3 then .ok (.lit ⟨2, t.n, 0, .empty⟩) (i + 1) else if t.k = 5 then .ok (.lit ⟨3, 0, t.b, .empty⟩) (i + 1) else
    if t.k = 4 then .ok (.lit ⟨4, 0, 0, t.t⟩) (i + 1) else failT T i
def cmpT' (T : List Tk) (R : Nat → Pr) (i : Nat) : Pr := (R i).then fun e j =>
  if T[j]? = some isW then wantT T nullW (j + 1) fun j => .ok (.un 17 e) j else
  match pickOp T cmpOps j with
  | none => .ok e j
  | some op => (R (j + 1)).then fun e2 k => .ok (.bi op e e2) k
def preT (T : List Tk) (t : Tk) (op : Nat) (R S : Nat → Pr) (i : Nat) : Pr := if T[i]? = some t then (R (i + 1)).then fun e j => .ok (.un op e) j else S i
def stepT (T : List Tk) (R : Nat → Nat → Pr) (lv i : Nat) : Pr :=
  if lv = 1 then chainT T (R 2) [16] i else if lv = 2 then chainT T (R 3) [15] i else if lv = 3 then preT T notW 4 (R 3) (R 4) i else if lv = 4 then cmpT' T (R 5) i else
  if lv = 5 then chainT T (R 6) [19] i else if lv = 6 then chainT T (R 7) [5, 6] i else if lv = 7 then chainT T (R 8) [7, 8] i else if lv = 8 then preT T mnT 3 (R 8) (R 9) i else firstT T (R 1) i
/-- Reading at a level from a token on. -/
def rd (T : List Tk) : Nat → Nat → Nat → Pr
  | 0 => fun _ _ => .out
  | f + 1 => stepT T (rd T f)

/-! ### what is read of what was shown -/
/-- What stands behind does not go on with an expression of at least this level. -/
def Stop (k : Nat) (T : List Tk) (j : Nat) : Prop := (∀ op, bi2 op → op ≠ 20 → k ≤ lvl op → T[j]? ≠ some (markT op)) ∧ (k ≤ 4 → T[j]? ≠ some isW)
theorem Stop.mono {k l : Nat} {T : List Tk} {j : Nat} (h : Stop k T j) (hk : k ≤ l) : Stop l T j := ⟨fun op h1 h2 h3 => h.1 op h1 h2 (Nat.le_trans hk h3), fun h4 => h.2 (Nat.le_trans hk h4)⟩
theorem Stop.end {k : Nat} {T : List Tk} {j : Nat} (h : T.length ≤ j) : Stop k T j := by
  rw [Stop, List.getElem?_eq_none h]
  exact ⟨fun _ _ _ _ => by simp, fun _ => by simp⟩
def Ev (T : List Tk) (k i : Nat) (x : Ex) (j : Nat) : Prop := ∃ f0, ∀ f, f0 ≤ f → rd T f k i = .ok x j
/-- The tokens l stand in T from i on. -/
def Here (T : List Tk) (i : Nat) (l : List Tk) : Prop := ∀ n, n < l.length → T[i + n]? = l[n]?
theorem Here.app {T : List Tk} {i : Nat} {l m : List Tk} (h : Here T i (l ++ m)) : Here T i l ∧ Here T (i + l.length) m := by
  refine ⟨fun n hn => ?_, fun n hn => ?_⟩
  · rw [h n (by rw [List.length_append]; omega), List.getElem?_append_left hn]
  · rw [Nat.add_assoc, h (l.length + n) (by rw [List.length_append]; omega), List.getElem?_append_right (by omega), Nat.add_sub_cancel_left]
theorem Here.cons {T : List Tk} {i : Nat} {t : Tk} {m : List Tk} (h : Here T i (t :: m)) : T[i]? = some t ∧ Here T (i + 1) m := by
  have h1 := (Here.app (l := [t]) (m := m) h)
  exact ⟨h1.1 0 (by show 0 < 1; decide), h1.2⟩
theorem pick_none {T : List Tk} {j : Nat} : ∀ {ops : List Nat}, (∀ op ∈ ops, T[j]? ≠ some (markT op)) → pickOp T ops j = none
  | [], _ => rfl
  | op :: l, h => by
    unfold pickOp
    rw [if_neg (h op List.mem_cons_self)]
    exact pick_none fun o ho => h o (List.mem_cons_of_mem _ ho)
theorem mark_inj {a b : Nat} (ha : bi2 a) (hb : bi2 b) (h1 : a ≠ 20) (h2 : b ≠ 20) (h : markT a = markT b) : a = b := by
  obtain ⟨a1, a2, a3, a4⟩ := ha
  obtain ⟨b1, b2, b3, b4⟩ := hb
  have ca : a = 5 ∨ a = 6 ∨ a = 7 ∨ a = 8 ∨ a = 9 ∨ a = 10 ∨ a = 11 ∨ a = 12 ∨ a = 13 ∨ a = 14 ∨ a = 15 ∨ a = 16 ∨ a = 19 := by omega
  have cb : b = 5 ∨ b = 6 ∨ b = 7 ∨ b = 8 ∨ b = 9 ∨ b = 10 ∨ b = 11 ∨ b = 12 ∨ b = 13 ∨ b = 14 ∨ b = 15 ∨ b = 16 ∨ b = 19 := by omega
  revert h
  rcases ca with rfl | rfl | rfl | rfl | rfl | rfl | rfl | rfl | rfl | rfl | rfl | rfl | rfl <;> rcases cb with rfl | rfl | rfl | rfl | rfl | rfl | rfl | rfl | rfl | rfl | rfl | rfl | rfl <;> decide
theorem pick_some {T : List Tk} {j op : Nat} (hb : bi2 op) (h20 : op ≠ 20) (ht : T[j]? = some (markT op)) : ∀ {ops : List Nat}, op ∈ ops → (∀ o ∈ ops, bi2 o ∧ o ≠ 20) → pickOp T ops j = some op
  | o :: l, h, hl => by
    unfold pickOp
    obtain ⟨o1, o2⟩ := hl o List.mem_cons_self
    by_cases e : o = op
    · subst e
      rw [if_pos ht]
    · rw [if_neg (fun h2 => e (mark_inj o1 hb o2 h20 (Option.some.inj (h2.symm.trans ht))))]
      rcases List.mem_cons.1 h with h | h
      · exact absurd h.symm e
      · exact pick_some hb h20 ht h fun o ho => hl o (List.mem_cons_of_mem _ ho)
/-- The operations of a level that is a chain. -/
def opsL (L : Nat) : List Nat := if L = 1 then [16] else if L = 2 then [15] else if L = 5 then [19] else if L = 6 then [5, 6] else [7, 8]
def chainL (L : Nat) : Prop := L = 1 ∨ L = 2 ∨ L = 5 ∨ L = 6 ∨ L = 7
theorem step_chain (T : List Tk) (R : Nat → Nat → Pr) {L : Nat} (h : chainL L) (i : Nat) : stepT T R L i = chainT T (R (L + 1)) (opsL L) i := by
  rcases h with rfl | rfl | rfl | rfl | rfl <;> rfl
theorem opsL_mem {L op : Nat} (h : chainL L) : op ∈ opsL L ↔ bi2 op ∧ op ≠ 20 ∧ lvl op = L := by
  constructor
  · intro ho
    rcases h with rfl | rfl | rfl | rfl | rfl <;> simp only [opsL] at ho <;> simp at ho
    · subst ho; exact ⟨by unfold bi2; omega, by decide, rfl⟩
    · subst ho; exact ⟨by unfold bi2; omega, by decide, rfl⟩
    · subst ho; exact ⟨by unfold bi2; omega, by decide, rfl⟩
    · rcases ho with rfl | rfl <;> exact ⟨by unfold bi2; omega, by decide, rfl⟩
    · rcases ho with rfl | rfl <;> exact ⟨by unfold bi2; omega, by decide, rfl⟩
  · rintro ⟨⟨b1, b2, b3, b4⟩, h20, hl⟩
    have ca : op = 5 ∨ op = 6 ∨ op = 7 ∨ op = 8 ∨ op = 9 ∨ op = 10 ∨ op = 11 ∨ op = 12 ∨ op = 13 ∨ op = 14 ∨ op = 15 ∨ op = 16 ∨ op = 19 := by omega
    subst hl
    revert h
    unfold chainL
    rcases ca with rfl | rfl | rfl | rfl | rfl | rfl | rfl | rfl | rfl | rfl | rfl | rfl | rfl <;> decide
/-- From a level to the one below. -/
theorem ev_down {T : List Tk} {m i j : Nat} {x : Ex} (hm : 1 ≤ m ∧ m ≤ 8) (h : Ev T (m + 1) i x j) (hs : Stop m T j) (h3 : m = 3 → T[i]? ≠ some notW) (h8 : m = 8 → T[i]? ≠ some mnT) : Ev T m i x j := by
  obtain ⟨f0, h⟩ := h
  refine ⟨f0 + 1, fun f hf => ?_⟩
  obtain ⟨f, rfl⟩ : ∃ g, f = g + 1 := ⟨f - 1, by omega⟩
  have h := h f (by omega)
  show stepT T (rd T f) m i = _
  by_cases hc : chainL m
  · rw [step_chain T _ hc]
    unfold chainT
    rw [h]
    show chn T _ (opsL m) (T.length + 1) x j = _
    unfold chn
    rw [pick_none fun op ho => ?_]
    obtain ⟨o1, o2, o3⟩ := (opsL_mem hc).1 ho
    exact hs.1 op o1 o2 (by omega)
  · have hc : m = 3 ∨ m = 4 ∨ m = 8 := by unfold chainL at hc; omega
    rcases hc with rfl | rfl | rfl
    · show preT T notW 4 _ _ i = _
      unfold preT
      rw [if_neg (h3 rfl)]
      exact h
    · show cmpT' T _ i = _
      unfold cmpT'
      rw [h]
      show (if _ then _ else _) = _
      rw [if_neg (hs.2 (Nat.le_refl 4)), pick_none fun op ho => ?_]
      have : op = 9 ∨ op = 10 ∨ op = 11 ∨ op = 12 ∨ op = 13 ∨ op = 14 := by simpa [cmpOps] using ho
      rcases this with rfl | rfl | rfl | rfl | rfl | rfl <;> exact hs.1 _ (by unfold bi2; omega) (by decide) (by decide)
    · show preT T mnT 3 _ _ i = _
      unfold preT
      rw [if_neg (h8 rfl)]
      exact h
theorem ev_downs {T : List Tk} {i j : Nat} {x : Ex} : ∀ {d k : Nat}, 1 ≤ k → k + d ≤ 9 → Ev T (k + d) i x j → Stop k T j → (k ≤ 3 → 3 < k + d → T[i]? ≠ some notW) → (k ≤ 8 → 8 < k + d → T[i]? ≠ some mnT) → Ev T k i x j
  | 0, k, _, _, h, _, _, _ => h
  | d + 1, k, hk, h9, h, hs, h3, h8 => by
    have h1 : Ev T (k + 1) i x j := ev_downs (d := d) (k := k + 1) (by omega) (by omega) (by rwa [show k + 1 + d = k + (d + 1) by omega]) (hs.mono (by omega)) (fun a b => h3 (by omega) (by omega)) (fun a b => h8 (by omega) (by omega))
    exact ev_down ⟨hk, by omega⟩ h1 hs (fun e => h3 (by omega) (by omega)) (fun e => h8 (by omega) (by omega))
theorem wrap_head (op k : Nat) (l : List Tk) (hl : l ≠ []) : (wrapT op k l).head? = if lvl op < k then some lpT else l.head? := by
  unfold wrapT
  split <;> rfl
theorem shwB_ne : ∀ x : Ex, shwB x ≠ []
  | .lit _ => by simp [shwB]
  | .col _ => by simp [shwB]
  | .un op a => by
    unfold shwB
    repeat' split
    all_goals simp
  | .bi op a b => by
    unfold shwB
    split <;> simp
theorem head_app {α : Type} {l m : List α} (h : l ≠ []) : (l ++ m).head? = l.head? := by cases l with | nil => exact absurd rfl h | cons a l => rfl
theorem wrap_ne (op k : Nat) {l : List Tk} (h : l ≠ []) : wrapT op k l ≠ [] := by
  unfold wrapT
  split
  · simp
  · exact h
/-- What binds more closely than not does not begin with not; what is closest not with a minus. -/
theorem head_not : ∀ (x : Ex) (k : Nat), x.ok → (4 ≤ k ∨ 4 ≤ lvl x.op) → (shw x k).head? ≠ some notW
  | x, k, hx, h => by
    unfold shw
    rw [wrap_head _ _ _ (shwB_ne x)]
    split
    · decide
    · rename_i hlk
      have h4 : 4 ≤ lvl x.op := by omega
      cases x with
      | lit v =>
        have hg : Gd v := hx.1
        show some (litT v) ≠ _
        cases hg with
        | bool n hn => rcases hn with rfl | rfl <;> decide
        | null => decide
        | _ => simp [litT]
      | col n => simp [shwB]
      | un op a =>
        have hop : un1 op := hx.1
        unfold shwB
        rcases hop with rfl | rfl | rfl | rfl
        · simp
        · exact absurd h4 (by show ¬ 4 ≤ 3; omega)
        · show (wrapT a.op 5 (shwB a) ++ [isW, nullW]).head? ≠ _
          rw [head_app (wrap_ne _ _ (shwB_ne a))]
          exact head_not a 5 hx.2 (.inl (by omega))
        · simp
      | bi op a b =>
        obtain ⟨hop, ha, hb⟩ := hx
        unfold shwB
        split
        · simp
        · rename_i h20
          rw [head_app (wrap_ne _ _ (shwB_ne a))]
          refine head_not a (leftL (lvl op)) ha (.inl ?_)
          have h4 : 4 ≤ lvl op := h4
          unfold leftL
          split <;> omega
theorem head_min (x : Ex) (k : Nat) (hx : x.ok) (h : 9 ≤ k ∨ 9 ≤ lvl x.op) : (shw x k).head? ≠ some mnT := by
  unfold shw
  rw [wrap_head _ _ _ (shwB_ne x)]
  split
  · decide
  · rename_i hlk
    have h9 : 9 ≤ lvl x.op := by omega
    cases x with
    | lit v =>
      have hg : Gd v := hx.1
      show some (litT v) ≠ _
      cases hg with
      | bool n hn => rcases hn with rfl | rfl <;> decide
      | null => decide
      | _ => simp [litT]
    | col n => simp [shwB]
    | un op a =>
      have hop : un1 op := hx.1
      unfold shwB
      rcases hop with rfl | rfl | rfl | rfl
      · exact absurd h9 (by show ¬ 9 ≤ 8; omega)
      · exact absurd h9 (by show ¬ 9 ≤ 3; omega)
      · exact absurd h9 (by show ¬ 9 ≤ 4; omega)
      · simp
    | bi op a b =>
      obtain ⟨⟨b1, b2, b3, b4⟩, ha, hb⟩ := hx
      unfold shwB
      split
      · simp
      · rename_i h20
        exfalso
        have ca : op = 5 ∨ op = 6 ∨ op = 7 ∨ op = 8 ∨ op = 9 ∨ op = 10 ∨ op = 11 ∨ op = 12 ∨ op = 13 ∨ op = 14 ∨ op = 15 ∨ op = 16 ∨ op = 19 := by omega
        revert h9
        show ¬ 9 ≤ lvl op
        rcases ca with rfl | rfl | rfl | rfl | rfl | rfl | rfl | rfl | rfl | rfl | rfl | rfl | rfl <;> decide
theorem Here.head {T : List Tk} {i : Nat} {l : List Tk} (h : Here T i l) (hl : l ≠ []) : T[i]? = l.head? := by
  cases l with
  | nil => exact absurd rfl hl
  | cons a l => exact h.cons.1
end Go.Proofs.YtlpnnnmdkglkcaaDoor

