/-
  Which numbers a column must have, if a condition is to hold. No program in sight.
-/
import Derived.Test.YtpaccaojgbfjdaaDoorZEvBi
namespace Go.Proofs.YtpaccaojgbfjdaaDoor
set_option linter.unusedSimpArgs false
set_option linter.unusedVariables false

abbrev minI : Int := -9223372036854775808
abbrev maxI : Int := 9223372036854775807
/-- What 'literal' tells. -/
def litN : Ex → Int
  | .lit v => v.n
  | .un op a => if op = 3 ∧ a.op = 1 ∧ a.val.k = 2 then w64 (0 - a.val.n) else 0
  | _ => 0
def litB : Ex → Bool
  | .lit v => v.k == 2
  | .un op a => decide (op = 3 ∧ a.op = 1 ∧ a.val.k = 2)
  | _ => false
def turnF (op : Nat) : Nat := if op = 11 then 13 else if op = 12 then 14 else if op = 13 then 11 else if op = 14 then 12 else op
def boundF (op : Nat) (n : Int) : Int × Int :=
  if op = 9 then (n, n) else
  if op = 11 then (if n = minI then (1, 0) else (minI, n - 1)) else
  if op = 12 then (minI, n) else
  if op = 13 then (if n = maxI then (1, 0) else (n + 1, maxI)) else
  if op = 14 then (n, maxI) else (minI, maxI)
def isCol (c : ByteArray) : Ex → Bool
  | .col n => decide (n = c)
  | _ => false
def spanF (c : ByteArray) : Ex → Int × Int
  | .bi op a b =>
    if op = 15 then ((if (spanF c a).1 < (spanF c b).1 then (spanF c b).1 else (spanF c a).1), (if (spanF c b).2 < (spanF c a).2 then (spanF c b).2 else (spanF c a).2)) else
    if op < 9 ∨ op > 14 then (minI, maxI) else
    if (litB b && isCol c a) = true then boundF op (litN b) else
    if (litB a && isCol c b) = true then boundF (turnF op) (litN a) else (minI, maxI)
  | _ => (minI, maxI)
/-- What 'Of' tells. -/
def spanO (c : ByteArray) (x : Ex) : Int × Int := if (spanF c x).1 > (spanF c x).2 then (1, 0) else spanF c x

/-! ### comparisons of a column with a number -/
theorem ord_int (a b : Int) : ordV (numV a) (numV b) = if a < b then -1 else if a > b then 1 else 0 := by
  unfold ordV
  rw [less_n (a := numV a) (b := numV b) rfl (by show ¬ (2 : Int) = 3; omega) (by show ¬ (2 : Int) = 4; omega), more_n (a := numV a) (b := numV b) rfl (by show ¬ (2 : Int) = 3; omega) (by show ¬ (2 : Int) = 4; omega)]
  simp only [decide_eq_true_eq]
def cmpB (op : Nat) (a b : Int) : Bool := if op = 9 then a == b else if op = 10 then a != b else if op = 11 then decide (a < b) else if op = 12 then decide (a ≤ b) else if op = 13 then decide (a > b) else decide (a ≥ b)
theorem comp_int {op : Nat} (h : 9 ≤ op ∧ op ≤ 14) (a b : Int) : compF op (numV a) (numV b) = ⟨⟨1, if cmpB op a b = true then 1 else 0, 0, .empty⟩, 0⟩ := by
  unfold compF
  rw [if_neg (by show ¬ ((2 : Int) = 0 ∨ (2 : Int) = 0); omega), if_pos rfl]
  have key : cmpT op (numV a) (numV b) = if cmpB op a b = true then 2 else 0 := by
    unfold cmpT cmpB
    rw [ord_int, ord_int]
    unfold yesI
    rcases (by omega : op = 9 ∨ op = 10 ∨ op = 11 ∨ op = 12 ∨ op = 13 ∨ op = 14) with rfl | rfl | rfl | rfl | rfl | rfl <;> rcases Int.lt_trichotomy a b with h | h | h
    all_goals first
      | (subst h; simp)
      | (have h1 : ¬ b < a := by omega
         have h2 : ¬ a = b := by omega
         have h3 : a ≤ b := by omega
         have h4 : ¬ b ≤ a := by omega
         simp [h, h1, h2, h3, h4])
      | (have h1 : ¬ a < b := by omega
         have h2 : ¬ a = b := by omega
         have h3 : b ≤ a := by omega
         have h4 : ¬ a ≤ b := by omega
         simp [h, h1, h2, h3, h4])
  rw [key]
  cases cmpB op a b <;> rfl
theorem cmp_turn {op : Nat} (h : op = 9 ∨ op = 11 ∨ op = 12 ∨ op = 13 ∨ op = 14) (a b : Int) : cmpB op a b = cmpB (turnF op) b a := by
  unfold turnF cmpB
  rcases h with rfl | rfl | rfl | rfl | rfl
  · show (a == b) = (b == a)
    rw [Bool.eq_iff_iff, beq_iff_eq, beq_iff_eq]; omega
  all_goals (simp; try omega)
theorem bound_iff {op : Nat} (h : op = 9 ∨ op = 11 ∨ op = 12 ∨ op = 13 ∨ op = 14) {k n : Int} (hk : I64 k) (hn : I64 n) : cmpB op k n = true ↔ (boundF op n).1 ≤ k ∧ k ≤ (boundF op n).2 := by
  unfold I64 at *
  have e1 : minI = -9223372036854775808 := rfl
  have e2 : maxI = 9223372036854775807 := rfl
  unfold cmpB boundF
  rcases h with rfl | rfl | rfl | rfl | rfl
  · simp; omega
  · simp
    split <;> simp <;> omega
  · simp; omega
  · simp
    split <;> simp <;> omega
  · simp; omega
theorem turn_in {op : Nat} (h : op = 9 ∨ op = 11 ∨ op = 12 ∨ op = 13 ∨ op = 14) : turnF op = 9 ∨ turnF op = 11 ∨ turnF op = 12 ∨ turnF op = 13 ∨ turnF op = 14 := by
  rcases h with rfl | rfl | rfl | rfl | rfl <;> decide
end Go.Proofs.YtpaccaojgbfjdaaDoor

