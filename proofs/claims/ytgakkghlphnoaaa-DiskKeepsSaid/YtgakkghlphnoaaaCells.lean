/-
  Variables of many cells (an array, a struct that holds one): made and stored at once; loaded from a slice. No condition.
-/
import Derived.Test.YtgakkghlphnoaaaApp
import Derived.Deep.MidRow
import Derived.Deep.WholeRow
import Derived.Laws.ResultCell
namespace Go.Proofs.Ytgakkghlphnoaaa
set_option linter.unusedSimpArgs false
set_option linter.unusedVariables false
open Go.RowKit

section
variable {P : Program} {ops : Array Oper} {rest : List Oper} {a : Act} {Q : Exit → Act → World → Prop} {w : World}
/-- 'x := v', x a variable of its own block: alloc, then store. -/
theorem step_var {o1 o2 : Oper} (T : TypeId) (t : Tmp) (y : Operand) (n : Nat) (z : Value) (cells : Array Value)
    (hg1 : o1.guard = none) (ho1 : o1.op = .alloc T) (hd1 : o1.dst = some t) (hg2 : o2.guard = none) (ho2 : o2.op = .store T (.tmp t) y) (hd2 : o2.dst = none)
    (hI : (P.info? T).map (fun i => (i.zero, i.size)) = some (some z, n)) (hz : z.cells.size = n)
    (hp : ∀ p, (a.put (some t) p).eval (.tmp t) = p) (hy : ∀ p, (a.put (some t) p).eval y = .agg cells) (hn : cells.size = n) (h1 : cells.all (·.oneCell') = true)
    (h : wpList P ops Q rest (a.put (some t) (.pointer (some ⟨w.heap.size, 0, none⟩))) (w.alloc (.cells cells T))) : wpList P ops Q (o1 :: o2 :: rest) a w := by
  obtain ⟨hzv, hsz⟩ := zero_of_info hI
  refine wpList_plain hg1 fun K hK => ?_
  have hrun : (execOp a.eval o1).run P w = .ok (.value (.pointer (some ⟨w.heap.size, 0, none⟩))) (w.alloc (.cells z.cells T)) := by
    unfold execOp
    simp [ho1, Instr.alloc, Sem.run_bind, hzv, newVar, newRow]
  unfold Oper.wp
  rw [hrun, Oper.upon_value, hd1]
  refine hK _ _ ?_
  refine wpList_plain hg2 fun K hK => ?_
  refine wp_store_row T (.tmp t) y ho2 w.heap.size cells (hp _) (hy _) T z.cells (heap_alloc_new w _) (by rw [hsz, hn]) (by rw [hz, hn]) h1 ?_
  rw [hd2, World.setRow_alloc_new]
  exact hK _ _ h
/-- A variable of many noughts. -/
theorem step_alloc {o1 : Oper} (T : TypeId) (t : Tmp) (n : Nat) (z : Value)
    (hg1 : o1.guard = none) (ho1 : o1.op = .alloc T) (hd1 : o1.dst = some t) (hI : (P.info? T).map (fun i => (i.zero, i.size)) = some (some z, n))
    (h : wpList P ops Q rest (a.put (some t) (.pointer (some ⟨w.heap.size, 0, none⟩))) (w.alloc (.cells z.cells T))) : wpList P ops Q (o1 :: rest) a w := by
  obtain ⟨hzv, hsz⟩ := zero_of_info hI
  refine wpList_plain hg1 fun K hK => ?_
  have hrun : (execOp a.eval o1).run P w = .ok (.value (.pointer (some ⟨w.heap.size, 0, none⟩))) (w.alloc (.cells z.cells T)) := by
    unfold execOp
    simp [ho1, Instr.alloc, Sem.run_bind, hzv, newVar, newRow]
  unfold Oper.wp
  rw [hrun, Oper.upon_value, hd1]
  exact hK _ _ h
/-- A variable of many cells, of a block known whole, is read. -/
theorem step_get {o : Oper} (T : TypeId) (x : Operand) (n : Nat) (d : TypeDesc) (cells : Array Value) (g : Nat)
    (hgd : o.guard = none) (ho : o.op = .load T x) (hx : a.eval x = .pointer (some ⟨g, 0, none⟩)) (hb : Blk w g T cells)
    (hu : P.underlying T = some d) (hd : d.isRow = true) (hi : (P.info? T).map (·.size) = some n) (hn : cells.size = n)
    (h : wpList P ops Q rest (a.put o.dst (.agg cells)) w) : wpList P ops Q (o :: rest) a w := by
  have hr : w.rangeAt g 0 cells.toList := by
    have := World.rangeAt_of_block hb 0 cells.size
    simpa using this
  have := wpList_load_mid (P := P) (ops := ops) (rest := rest) (op := o) (a := a) (w := w) (Q := Q) hgd T x ho g 0 hx cells.toList d hr hu hd (by rw [hi]; simp [hn]) (by simpa using h)
  exact this
theorem loadVar_blk {T : TypeId} {cells : Array Value} {g n : Nat} {d : TypeDesc} (hb : Blk w g T cells) (hu : P.underlying T = some d) (hd : d.isRow = true) (hi : (P.info? T).map (·.size) = some n) (hn : cells.size = n) :
    (loadVar T ⟨g, 0, none⟩).run P w = .ok (.agg cells) w := by
  have hr : w.rangeAt g 0 cells.toList := by
    have := World.rangeAt_of_block hb 0 cells.size
    simpa using this
  have := run_loadVar_mid (P := P) w g 0 T cells.toList d hr hu hd (by rw [hi]; simp [hn])
  simpa using this
theorem set_row_facts {T : TypeId} {g : Nat} {old : Array Value} (hb : Blk w g T old) (cells : Array Value) : Blk (w.setRow g cells) g T cells ∧ w.grownBy (w.setRow g cells) (some g) ∧ (w.setRow g cells).heap.size = w.heap.size := by
  refine ⟨?_, ⟨rfl, rfl, rfl, by simp [World.setRow], fun k hk hne => ?_⟩, by simp [World.setRow]⟩
  · unfold Blk at hb ⊢
    simp [World.setRow, Array.getElem?_modify, hb]
  · have : ¬ g = k := fun e => hne (by rw [e])
    simp [World.setRow, Array.getElem?_modify, this]
/-- A variable of many cells, of a block known whole, is written anew. -/
theorem step_set {o : Oper} (T : TypeId) (x y : Operand) (n : Nat) (cells old : Array Value) (g : Nat)
    (hgd : o.guard = none) (ho : o.op = .store T x y) (hdst : o.dst = none) (hx : a.eval x = .pointer (some ⟨g, 0, none⟩)) (hy : a.eval y = .agg cells)
    (hb : Blk w g T old) (hi : (P.info? T).map (·.size) = some n) (hold : old.size = n) (hn : cells.size = n) (h1 : cells.all (·.oneCell') = true)
    (h : ∀ w', Blk w' g T cells → w.grownBy w' (some g) → w'.heap.size = w.heap.size → wpList P ops Q rest a w') : wpList P ops Q (o :: rest) a w := by
  refine wpList_store_row hgd T x y ho g cells hx hy T old hb (by rw [hi, hn]) (by rw [hold, hn]) h1 ?_
  rw [hdst]
  refine h _ ?_ ⟨rfl, rfl, rfl, by simp [World.setRow], fun k hk hne => ?_⟩ (by simp [World.setRow])
  · unfold Blk at hb ⊢
    simp [World.setRow, Array.getElem?_modify, hb]
  · have : ¬ g = k := fun e => hne (by rw [e])
    simp [World.setRow, Array.getElem?_modify, this]
theorem range_of_reads {B size n : Nat} {A : Option Addr} {xs : List Value} (h : Reads w B size A n xs) {k : Nat} (hk : k < n) (hs : 0 < size) : ∃ b off, A = some ⟨b, off, none⟩ ∧ b < B ∧ w.rangeAt b (off + k * size) ((xs.drop (k * size)).take size) := by
  have hm : (k + 1) * size ≤ n * size := Nat.mul_le_mul_right _ hk
  have hl := h.1
  rw [Nat.add_mul] at hm
  obtain ⟨b, off, e, hb, _, hall⟩ := h.cell (j := 0) (by omega)
  refine ⟨b, off, e, hb, fun j v hv => ?_⟩
  rw [List.getElem?_take] at hv
  split at hv
  · rw [List.getElem?_drop] at hv
    have hj : k * size + j < xs.length := (List.getElem?_eq_some_iff.1 hv).1
    rw [Nat.add_assoc, hall _ hj, hv]
  · cases hv
end
end Go.Proofs.Ytgakkghlphnoaaa
