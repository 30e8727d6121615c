/-
  What is reckoned ahead of any row says the same in each. No program in sight.
-/
import Derived.Test.YtnkpnnphmimagaaDoorZV
namespace Go.Proofs.YtnkpnnphmimagaaDoor
set_option linter.unusedSimpArgs false
set_option linter.unusedVariables false
open Go.Lib

/-- An operation, or its value, if it is of literals alone and its value may be written as one. -/
def foldG (t : Tv) (y : Ex) : Ex := if y.args.all (fun a => a.op == 1) = true then (if t.e ≠ 0 ∨ t.v.n < 0 then y else .lit t.v) else y
def foldF : Ex → Ex
  | .lit v => .lit v
  | .col n => .col n
  | .un op a => foldG (evF [] [] (.un op a)) (.un op (foldF a))
  | .bi op a b => foldG (evF [] [] (.bi op a b)) (.bi op (foldF a) (foldF b))
theorem op1_lit {x : Ex} (hok : x.ok) (h : x.op = 1) : ∃ v, x = .lit v := by
  cases x with
  | lit v => exact ⟨v, rfl⟩
  | col n => cases h
  | un op a => have h : op = 1 := h; have := hok.1; unfold un1 at this; omega
  | bi op a b => have h : op = 1 := h; have := hok.1; unfold bi2 at this; omega
theorem foldG_ok {t : Tv} {y : Ex} (ht : Gd t.v) (hy : y.ok) : (foldG t y).ok := by
  unfold foldG
  split
  · split
    · exact hy
    · exact ⟨ht, by omega⟩
  · exact hy
theorem foldF_ok : ∀ {x : Ex}, x.ok → (foldF x).ok
  | .lit v, h => h
  | .col n, h => h
  | .un op a, h => foldG_ok (evF_gd (x := .un op a) (fun v hv => by cases hv) h) ⟨h.1, foldF_ok h.2⟩
  | .bi op a b, h => foldG_ok (evF_gd (x := .bi op a b) (fun v hv => by cases hv) h) ⟨h.1, foldF_ok h.2.1, foldF_ok h.2.2⟩
theorem foldG_deep (t : Tv) (y : Ex) : (foldG t y).deep ≤ y.deep := by
  unfold foldG
  split
  · split
    · exact Nat.le_refl _
    · exact Ex.deep_pos y
  · exact Nat.le_refl _
theorem foldG_num (t : Tv) (y : Ex) : (foldG t y).num ≤ y.num := by
  unfold foldG
  split
  · split
    · exact Nat.le_refl _
    · exact Ex.num_pos y
  · exact Nat.le_refl _
theorem foldF_deep : ∀ x : Ex, (foldF x).deep ≤ x.deep
  | .lit v => Nat.le_refl _
  | .col n => Nat.le_refl _
  | .un op a => by
    refine Nat.le_trans (foldG_deep _ _) ?_
    have := foldF_deep a
    simp only [Ex.deep]; omega
  | .bi op a b => by
    refine Nat.le_trans (foldG_deep _ _) ?_
    have := foldF_deep a
    have := foldF_deep b
    simp only [Ex.deep]; omega
theorem foldF_num : ∀ x : Ex, (foldF x).num ≤ x.num
  | .lit v => Nat.le_refl _
  | .col n => Nat.le_refl _
  | .un op a => by
    refine Nat.le_trans (foldG_num _ _) ?_
    have := foldF_num a
    simp only [Ex.num]; omega
  | .bi op a b => by
    refine Nat.le_trans (foldG_num _ _) ?_
    have := foldF_num a
    have := foldF_num b
    simp only [Ex.num]; omega
theorem ev_un_congr {cols cols' : List Cl} {row row' : List Vl} {op : Nat} {a a' : Ex} (h : evF cols row a = evF cols' row' a') : evF cols row (.un op a) = evF cols' row' (.un op a') := by rw [evF, evF, h]
theorem ev_bi_congr {cols cols' : List Cl} {row row' : List Vl} {op : Nat} {a a' b b' : Ex} (h : evF cols row a = evF cols' row' a') (h2 : evF cols row b = evF cols' row' b') : evF cols row (.bi op a b) = evF cols' row' (.bi op a' b') := by rw [evF, evF, h, h2]
theorem lit_ev {cols : List Cl} {row : List Vl} {v : Vl} : evF cols row (.lit v) = ⟨v, 0⟩ := rfl
theorem fold_step {cols : List Cl} {row : List Vl} {x y : Ex} (h1 : evF cols row y = evF cols row x) (h2 : y.args.all (fun a => a.op == 1) = true → evF cols row x = evF [] [] x) : evF cols row (foldG (evF [] [] x) y) = evF cols row x := by
  unfold foldG
  split
  · rename_i ha
    split
    · exact h1
    · rename_i ht
      rw [lit_ev, h2 ha]
      cases hq : evF [] [] x with
      | mk v e =>
        rw [hq] at ht
        dsimp only at ht ⊢
        have : e = 0 := by omega
        rw [this]
  · exact h1
/-- What is reckoned ahead says the same. -/
theorem fold_ev (cols : List Cl) (row : List Vl) : ∀ {x : Ex}, x.ok → evF cols row (foldF x) = evF cols row x
  | .lit v, _ => rfl
  | .col n, _ => rfl
  | .un op a, h => by
    refine fold_step (ev_un_congr (fold_ev cols row h.2)) fun ha => ?_
    simp only [Ex.args, List.all_cons, List.all_nil, Bool.and_true, beq_iff_eq] at ha
    obtain ⟨v, hv⟩ := op1_lit (foldF_ok h.2) ha
    refine ev_un_congr ?_
    rw [← fold_ev cols row h.2, ← fold_ev [] [] h.2, hv, lit_ev, lit_ev]
  | .bi op a b, h => by
    refine fold_step (ev_bi_congr (fold_ev cols row h.2.1) (fold_ev cols row h.2.2)) fun ha => ?_
    simp only [Ex.args, List.all_cons, List.all_nil, Bool.and_true, Bool.and_eq_true, beq_iff_eq] at ha
    obtain ⟨v, hv⟩ := op1_lit (foldF_ok h.2.1) ha.1
    obtain ⟨w, hw⟩ := op1_lit (foldF_ok h.2.2) ha.2
    refine ev_bi_congr ?_ ?_
    · rw [← fold_ev cols row h.2.1, ← fold_ev [] [] h.2.1, hv, lit_ev, lit_ev]
    · rw [← fold_ev cols row h.2.2, ← fold_ev [] [] h.2.2, hw, lit_ev, lit_ev]
theorem foldG_lit {t : Tv} {y : Ex} (h1 : y.args.all (fun a => a.op == 1) = true) (h2 : ¬ (t.e ≠ 0 ∨ t.v.n < 0)) : foldG t y = .lit t.v := by unfold foldG; rw [if_pos h1, if_neg h2]
theorem foldG_same {t : Tv} {y : Ex} (h : y.args.all (fun a => a.op == 1) = true → t.e ≠ 0 ∨ t.v.n < 0) : foldG t y = y := by
  unfold foldG
  split
  · rename_i h1; rw [if_pos (h h1)]
  · rfl
theorem fold_twice : ∀ {x : Ex}, x.ok → foldF (foldF x) = foldF x
  | .lit v, _ => rfl
  | .col n, _ => rfl
  | .un op a, h => by
    have ih := fold_twice h.2
    have e : evF [] [] (.un op (foldF a)) = evF [] [] (.un op a) := ev_un_congr (fold_ev [] [] h.2)
    show foldF (foldG (evF [] [] (.un op a)) (.un op (foldF a))) = foldG (evF [] [] (.un op a)) (.un op (foldF a))
    by_cases h1 : (Ex.un op (foldF a)).args.all (fun a => a.op == 1) = true
    · by_cases h2 : (evF [] [] (.un op a)).e ≠ 0 ∨ (evF [] [] (.un op a)).v.n < 0
      · rw [foldG_same fun _ => h2]
        show foldG (evF [] [] (.un op (foldF a))) (.un op (foldF (foldF a))) = _
        rw [e, ih, foldG_same fun _ => h2]
      · rw [foldG_lit h1 h2]; rfl
    · rw [foldG_same fun h => absurd h h1]
      show foldG (evF [] [] (.un op (foldF a))) (.un op (foldF (foldF a))) = _
      rw [ih, foldG_same fun h => absurd h h1]
  | .bi op a b, h => by
    have ih := fold_twice h.2.1
    have ih' := fold_twice h.2.2
    have e : evF [] [] (.bi op (foldF a) (foldF b)) = evF [] [] (.bi op a b) := ev_bi_congr (fold_ev [] [] h.2.1) (fold_ev [] [] h.2.2)
    show foldF (foldG (evF [] [] (.bi op a b)) (.bi op (foldF a) (foldF b))) = foldG (evF [] [] (.bi op a b)) (.bi op (foldF a) (foldF b))
    by_cases h1 : (Ex.bi op (foldF a) (foldF b)).args.all (fun a => a.op == 1) = true
    · by_cases h2 : (evF [] [] (.bi op a b)).e ≠ 0 ∨ (evF [] [] (.bi op a b)).v.n < 0
      · rw [foldG_same fun _ => h2]
        show foldG (evF [] [] (.bi op (foldF a) (foldF b))) (.bi op (foldF (foldF a)) (foldF (foldF b))) = _
        rw [e, ih, ih', foldG_same fun _ => h2]
      · rw [foldG_lit h1 h2]; rfl
    · rw [foldG_same fun h => absurd h h1]
      show foldG (evF [] [] (.bi op (foldF a) (foldF b))) (.bi op (foldF (foldF a)) (foldF (foldF b))) = _
      rw [ih, ih', foldG_same fun h => absurd h h1]
theorem ok_op {x : Ex} (h : x.ok) : x.op ≠ 0 := by
  cases x with
  | lit v => show (1 : Nat) ≠ 0; omega
  | col n => show (2 : Nat) ≠ 0; omega
  | un op a => have := h.1; unfold un1 at this; show op ≠ 0; omega
  | bi op a b => have := h.1; unfold bi2 at this; show op ≠ 0; omega
end Go.Proofs.YtnkpnnphmimagaaDoor

