/-
  A text as tokens, and tokens as a text. Plain. No condition.
-/
import Derived.Test.YtlpnnnmdkglkcaaDoorZLexC
import Derived.Lib.ItoaNum
namespace Go.Proofs.YtlpnnnmdkglkcaaDoor
set_option linter.unusedSimpArgs false
set_option linter.unusedVariables false
open Go.RowKit

/-- How many bytes at the head are of a kind. -/
def runN (p : UInt8 → Bool) : List UInt8 → Nat
  | [] => 0
  | c :: l => if p c then runN p l + 1 else 0
def blankB (c : UInt8) : Bool := c == 32 || c == 9 || c == 10
/-- How many bytes at the head are blanks and remarks (true: within a remark). -/
def blkN : Bool → List UInt8 → Nat
  | _, [] => 0
  | true, c :: l => if c = 10 then blkN false l + 1 else blkN true l + 1
  | false, c :: l => if blankB c then blkN false l + 1 else if c = 45 ∧ l.head? = some 45 then blkN true l + 1 else 0
inductive LR where
  | ok (t : Tk) (n : Nat)
  | err (e : Nat)
def numF : List UInt8 → Nat → Option Nat
  | [], n => some n
  | c :: l, n => if (9223372036854775807 - (c.toNat - 48)) / 10 < n then none else numF l (10 * n + (c.toNat - 48))
def quoF : List UInt8 → Option (List UInt8 × Nat)
  | [] => none
  | [c] => if c = 39 then some ([], 1) else none
  | c :: d :: l => if c = 39 then (if d = 39 then (quoF l).map (fun r => (39 :: r.1, r.2 + 2)) else some ([], 1)) else (quoF (d :: l)).map fun r => (c :: r.1, r.2 + 1)
def hexV (c : UInt8) : Option Nat := if digitB c then some (c.toNat - 48) else if 97 ≤ c.toNat ∧ c.toNat ≤ 102 then some (c.toNat - 97 + 10) else none
inductive HR where
  | ok (n : Nat)
  | err (e : Nat)
def hexF : Nat → List UInt8 → Nat → HR
  | 0, _, n => .ok n
  | _ + 1, [], _ => .err 4
  | k + 1, c :: l, n => match hexV c with
    | none => .err 3
    | some d => hexF k l (n * 16 + d)
def numT (l : List UInt8) : LR :=
  if 1 < runN digitB l ∧ l.head? = some 48 then .err 3 else match numF (l.take (runN digitB l)) 0 with
    | none => .err 6
    | some m => .ok ⟨3, .empty, m, 0⟩ (runN digitB l)
def quoT (l : List UInt8) : LR := match quoF l with
  | none => .err 4
  | some (b, n) => if 40 < b.length then .err 1 else if Lib.validD b then .ok ⟨4, ⟨b.toArray⟩, 0, 0⟩ (n + 1) else .err 3
abbrev hexOk (n : Nat) : Prop := chkV ⟨3, 0, n, .empty⟩ = 0
def hexT (l : List UInt8) : LR := match hexF 16 l 0 with
  | .err e => .err e
  | .ok n => if hexOk n then .ok ⟨5, .empty, 0, n⟩ 17 else .err 3
def sgnL : List (List UInt8) := [[40], [41], [44], [46], [61], [60], [62], [60, 61], [62, 61], [60, 62], [43], [45], [42], [47], [124, 124], [59]]
theorem sgn_mem {l : List UInt8} (h : l ∈ sgnL) : (⟨l.toArray⟩ : ByteArray) ∈ lexSigns := by
  unfold sgnL at h
  simp only [List.mem_cons, List.not_mem_nil, or_false] at h
  rcases h with rfl | rfl | rfl | rfl | rfl | rfl | rfl | rfl | rfl | rfl | rfl | rfl | rfl | rfl | rfl | rfl <;> simp [lexSigns]
def sgnT (l : List UInt8) : LR :=
  if l.take 2 ∈ sgnL ∧ 2 ≤ l.length then .ok ⟨6, ⟨(l.take 2).toArray⟩, 0, 0⟩ 2
  else if l.take 1 ∈ sgnL ∧ 1 ≤ l.length then .ok ⟨6, ⟨(l.take 1).toArray⟩, 0, 0⟩ 1 else .err 3
def wrdT (k : Int) (p : UInt8 → Bool) (l : List UInt8) : LR := if 8 < runN p l then .err 1 else .ok ⟨k, ⟨(l.take (runN p l)).toArray⟩, 0, 0⟩ (runN p l)
def tokF : List UInt8 → LR
  | [] => .err 3
  | c :: l => if smallB c then wrdT 1 inNameB (c :: l) else if greatB c then wrdT 2 greatB (c :: l) else if digitB c then numT (c :: l) else if c = 39 then quoT l else if c = 35 then hexT l else sgnT (c :: l)
inductive CR where
  | ok (T : List Tk)
  | err (at' e : Nat)
def CR.cons (t : Tk) : CR → CR
  | .ok T => .ok (t :: T)
  | r => r
def cutF : Nat → Nat → Nat → List UInt8 → CR
  | 0, _, _, _ => .ok []
  | f + 1, p, k, l => match l.drop (blkN false l) with
    | [] => .ok []
    | c :: m => if k = 100 then .err (p + blkN false l) 1 else match tokF (c :: m) with
      | .err e => .err (p + blkN false l) e
      | .ok t n => (cutF f (p + blkN false l + n) (k + 1) ((c :: m).drop n)).cons t

/-! ### what is shown -/
def hexD (n : Nat) : UInt8 := if n < 10 then UInt8.ofNat (48 + n) else UInt8.ofNat (87 + n)
/-- n's last digits to the base of sixteen, k of them. -/
def hexL : Nat → Nat → List UInt8
  | 0, _ => []
  | k + 1, n => hexL k (n / 16) ++ [hexD (n % 16)]
def dblL : List UInt8 → List UInt8
  | [] => []
  | c :: l => if c = 39 then 39 :: 39 :: dblL l else c :: dblL l
def shwT (t : Tk) : List UInt8 :=
  if t.k = 3 then Lib.decDigits t.n.toNat else if t.k = 4 then 39 :: (dblL t.t.data.toList ++ [39]) else if t.k = 5 then 35 :: hexL 16 t.b else t.t.data.toList
def joinT : List Tk → List UInt8
  | [] => []
  | [t] => shwT t
  | t :: u :: T => shwT t ++ 32 :: joinT (u :: T)
/-- A token that may be. -/
inductive TkL : Tk → Prop where
  | name (n : ByteArray) (h : NameOk n) : TkL ⟨1, n, 0, 0⟩
  | word (w : ByteArray) (h : wordOk w) : TkL ⟨2, w, 0, 0⟩
  | num (n : Nat) (h : n < 9223372036854775808) : TkL ⟨3, .empty, n, 0⟩
  | quote (t : ByteArray) (h1 : t.size ≤ 40) (h2 : Lib.validD t.data.toList = true) : TkL ⟨4, t, 0, 0⟩
  | hex (b : Nat) (h1 : b < 18446744073709551616) (h2 : hexOk b) : TkL ⟨5, .empty, 0, b⟩
  | sign (s : ByteArray) (h : s ∈ lexSigns) : TkL ⟨6, s, 0, 0⟩
theorem TkOk.lex {t : Tk} (h : TkOk t) (hn : t.n < 9223372036854775808) : TkL t := by
  cases h with
  | name n h => exact .name n h
  | word w h => exact .word w h
  | num n h =>
    have hn : n < 9223372036854775808 := hn
    have := TkL.num n.toNat (by omega)
    rwa [Int.toNat_of_nonneg h] at this
  | quote t h1 h2 => exact .quote t h1 h2
  | hex b h1 h2 h3 => exact .hex b h1 (Gd.chk (.real b h1 h2 h3))
  | sign s h => exact .sign s h

/-! ### laws -/
theorem run_len (p : UInt8 → Bool) : ∀ l : List UInt8, runN p l ≤ l.length
  | [] => Nat.le_refl _
  | c :: l => by
    rw [runN]
    split
    · have := run_len p l
      rw [List.length_cons]; omega
    · exact Nat.zero_le _
theorem run_take (p : UInt8 → Bool) : ∀ l : List UInt8, ∀ d ∈ l.take (runN p l), p d = true
  | [], d, h => by cases h
  | c :: l, d, h => by
    rw [runN] at h
    split at h
    · rename_i hc
      rcases List.mem_cons.1 h with rfl | h
      · exact hc
      · exact run_take p l d h
    · cases h
theorem run_all {p : UInt8 → Bool} : ∀ {l r : List UInt8}, (∀ d ∈ l, p d = true) → (∀ c, r.head? = some c → p c = false) → runN p (l ++ r) = l.length
  | [], [], _, _ => rfl
  | [], c :: r, _, h => by
    show (if p c then _ else _) = _
    rw [h c rfl]; rfl
  | c :: l, r, h, h2 => by
    show (if p c then runN p (l ++ r) + 1 else 0) = _
    rw [if_pos (h c (by simp)), run_all (fun d hd => h d (by simp [hd])) h2]
    rfl
theorem blk_len : ∀ (b : Bool) (l : List UInt8), blkN b l ≤ l.length
  | true, [] => Nat.le_refl _
  | false, [] => Nat.le_refl _
  | true, c :: l => by
    rw [blkN]
    have := blk_len true l
    have := blk_len false l
    rw [List.length_cons]
    split <;> omega
  | false, c :: l => by
    rw [blkN]
    have := blk_len true l
    have := blk_len false l
    rw [List.length_cons]
    split
    · omega
    · split <;> omega
/-- A remark goes on to its line's end. -/
theorem blk_rem : ∀ l : List UInt8, blkN true l = runN (fun c => c != 10) l + blkN false (l.drop (runN (fun c => c != 10) l))
  | [] => rfl
  | c :: l => by
    rw [blkN, runN]
    by_cases h : c = 10
    · subst h
      show _ = 0 + blkN false (10 :: l)
      rw [blkN]
      simp [blankB]
    · rw [if_neg h, if_pos (by simp [h]), blk_rem l]
      show _ = _ + 1 + blkN false (l.drop _)
      omega
theorem blk_dash {l : List UInt8} (h : l.head? = some 45) : blkN false (45 :: l) = runN (fun c => c != 10) (45 :: l) + blkN false ((45 :: l).drop (runN (fun c => c != 10) (45 :: l))) := by
  rw [← blk_rem]
  rw [blkN, blkN, if_neg (by decide), if_pos ⟨rfl, h⟩, if_neg (by decide)]
/-- What a text without blanks ahead begins with. -/
def Sep (r : List UInt8) : Prop := r = [] ∨ ∃ c l, r = c :: l ∧ blankB c = true
theorem sep_head {r : List UInt8} (h : Sep r) {c : UInt8} (hc : r.head? = some c) : blankB c = true := by
  rcases h with rfl | ⟨d, l, rfl, hd⟩
  · cases hc
  · injection hc with hc
    rwa [← hc]
theorem blank_cases {c : UInt8} (h : blankB c = true) : c = 32 ∨ c = 9 ∨ c = 10 := by
  unfold blankB at h
  simp only [Bool.or_eq_true, beq_iff_eq] at h
  rcases h with (h | h) | h
  · exact .inl h
  · exact .inr (.inl h)
  · exact .inr (.inr h)
end Go.Proofs.YtlpnnnmdkglkcaaDoor

