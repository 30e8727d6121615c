/-
  An element of many cells is stored into a row of the call's own. No condition.
-/
import Derived.Test.YtgakkghlphnoaaaDiskWrite
import Derived.Laws.CopyRow
namespace Go.Proofs.Ytgakkghlphnoaaa
set_option linter.unusedSimpArgs false
set_option linter.unusedVariables false
open Go.RowKit

theorem flat_set {α : Type} (f : α → List Value) (k : Nat) (x : α) (hx : (f x).length = k) : ∀ (l : List α) (j : Nat), j < l.length → (∀ y ∈ l, (f y).length = k) →
    (l.set j x).flatMap f = (l.flatMap f).take (j * k) ++ f x ++ (l.flatMap f).drop (j * k + k)
  | [], j, hj, _ => absurd hj (by simp)
  | y :: l, 0, hj, h => by
    have hy := h y (by simp)
    simp only [List.set_cons_zero, List.flatMap_cons, Nat.zero_mul, List.take_zero, List.nil_append, Nat.zero_add]
    rw [← hy, List.drop_left]
  | y :: l, j + 1, hj, h => by
    have hy := h y (by simp)
    have ih := flat_set f k x hx l j (by simpa using hj) (fun z hz => h z (by simp [hz]))
    have e : (j + 1) * k = (f y).length + j * k := by rw [hy, Nat.add_mul, Nat.one_mul, Nat.add_comm]
    simp only [List.set_cons_succ, List.flatMap_cons]
    rw [ih, e, List.take_length_add_append, Nat.add_assoc, List.drop_length_add_append]
    simp [List.append_assoc]
theorem run_storeVar_in {P : Program} {w : World} (T e : TypeId) (g off n : Nat) (cells old : Array Value) (hb : Blk w g e old) (hi : (P.info? T).map (·.size) = some n) (hn : cells.size = n) (hfit : off + n ≤ old.size) (h1 : cells.all (·.oneCell') = true) :
    (storeVar T ⟨g, off, none⟩ (.agg cells)).run P w = .ok () (w.setRow g (old.toList.take off ++ cells.toList ++ old.toList.drop (off + n)).toArray) := by
  have := run_storeCells_at P g off e cells.toList 0 old w hb (by simp; omega) (fun v hv => (Array.all_eq_true_iff_forall_mem.1 h1) v (by simpa using hv))
  simp only [Nat.add_zero] at this
  cases hq : P.info? T with
  | none => simp [hq] at hi
  | some i =>
    have hs : i.size = n := by simpa [hq] using hi
    simp [storeVar, sizeOf, typeInfo, hq, Value.cells, hs, hn, this]
section
variable {P : Program} {ops : Array Oper} {rest : List Oper} {a : Act} {Q : Exit → Act → World → Prop} {w : World}
/-- An element of an own row of elements of many cells is written anew. -/
theorem step_put {α : Type} (f : α → List Value) {o : Oper} (T e : TypeId) (x y : Operand) (k : Nat) (base g n c j : Nat) (l : List α) (u : α)
    (hgd : o.guard = none) (ho : o.op = .store T x y) (hdst : o.dst = none) (hx : a.eval x = .pointer (some ⟨g, j * k, none⟩)) (hy : a.eval y = .agg (f u).toArray)
    (hown : w.ownsRow base e k (.slice (some ⟨g, 0, none⟩) n c) n (l.flatMap f)) (hj : j < l.length) (hl : l.length = n) (hk : ∀ z ∈ l, (f z).length = k) (hu : (f u).length = k) (h1 : ∀ v ∈ f u, v.oneCell' = true)
    (hi : (P.info? T).map (·.size) = some k)
    (h : ∀ w', w'.ownsRow base e k (.slice (some ⟨g, 0, none⟩) n c) n ((l.set j u).flatMap f) → w.grownBy w' (some g) → w'.heap.size = w.heap.size → wpList P ops Q rest a w') : wpList P ops Q (o :: rest) a w := by
  have hlen := hown.1
  rcases hown.2 with ⟨h0, _⟩ | ⟨g', cap, cur, hv, hb, hh, hnc, hcm, hcs, ht⟩
  · cases h0
  injection hv with q1 q2 q3
  injection q1 with q1
  injection q1 with q1
  subst q1 q3
  have hjn : (j + 1) * k ≤ n * k := Nat.mul_le_mul_right _ (by omega)
  rw [Nat.add_mul, Nat.one_mul] at hjn
  have hck : n * k ≤ c * k := Nat.mul_le_mul_right _ hnc
  have hrun := run_storeVar_in (P := P) (w := w) T e g (j * k) k (f u).toArray cur hh hi (by simpa using hu) (by omega) (all_oneCell_toArray h1)
  refine wpList_plain hgd fun K hK => ?_
  unfold Oper.wp execOp
  simp only [ho, hx, hy, Instr.storeAt, Instr.sureAddr, Sem.run_bind, Sem.run_pure, Result.andThen_ok, hrun]
  obtain ⟨f1, f2, f3⟩ := set_row_facts (w := w) (T := e) (g := g) hh (cur.toList.take (j * k) ++ f u ++ cur.toList.drop (j * k + k)).toArray
  show K (a.put o.dst undef) (w.setRow g (cur.toList.take (j * k) ++ f u ++ cur.toList.drop (j * k + k)).toArray)
  rw [hdst]
  refine hK _ _ (h _ ⟨?_, .inr ⟨g, c, _, rfl, hb, f1, hnc, hcm, ?_, ?_⟩⟩ f2 f3)
  · rw [flat_len f k _ (fun z hz => ?_), List.length_set, hl]
    rcases List.mem_or_eq_of_mem_set hz with hz | rfl
    · exact hk z hz
    · exact hu
  · simp [hu]
    omega
  · rw [flat_set f k u hu l j hj hk, ← ht]
    simp only [List.toList_toArray]
    have e1 : (cur.toList.take (n * k)).take (j * k) = cur.toList.take (j * k) := by rw [List.take_take, Nat.min_eq_left (by omega)]
    have e2 : (cur.toList.take (n * k)).drop (j * k + k) = (cur.toList.drop (j * k + k)).take (n * k - (j * k + k)) := List.drop_take
    rw [e1, e2]
    have l1 : (cur.toList.take (j * k) ++ f u).length = j * k + k := by simp [hu]; omega
    rw [List.take_append, List.take_of_length_le (by rw [l1]; omega), l1]
end
end Go.Proofs.Ytgakkghlphnoaaa
