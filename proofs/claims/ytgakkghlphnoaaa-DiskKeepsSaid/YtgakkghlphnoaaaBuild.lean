/-
  What a build of a struct or a slice of many cells yields. No condition.
-/
import Derived.Test.YtgakkghlphnoaaaDiskNew
import Derived.Great.Walk
namespace Go.Proofs.Ytgakkghlphnoaaa
set_option linter.unusedSimpArgs false
set_option linter.unusedVariables false
open Go.RowKit

theorem foldl_set (off : Nat) : ∀ (l : List Value) (j : Nat) (cs : List Value), off + j + l.length ≤ cs.length →
    ((l.zipIdx j).foldl (fun (cs : Array Value) (p : Value × Nat) => cs.setIfInBounds (off + p.2) p.1) cs.toArray) = (cs.take (off + j) ++ l ++ cs.drop (off + j + l.length)).toArray
  | [], j, cs, h => by simp
  | v :: l, j, cs, h => by
    have h' : off + j < cs.length := by simp only [List.length_cons] at h; omega
    have e : cs.toArray.setIfInBounds (off + j) v = (cs.set (off + j) v).toArray := by simp
    rw [List.zipIdx_cons, List.foldl_cons]
    simp only []
    rw [e, foldl_set off l (j + 1) _ (by simp only [List.length_cons, List.length_set] at h ⊢; omega)]
    have e1 : (cs.set (off + j) v).take (off + (j + 1)) = cs.take (off + j) ++ [v] := by
      rw [← Nat.add_assoc, List.take_add_one, List.getElem?_set_self h', List.take_set_of_le (Nat.le_refl _)]
      rfl
    have e2 : (cs.set (off + j) v).drop (off + (j + 1) + l.length) = cs.drop (off + j + (v :: l).length) := by
      rw [List.drop_set_of_lt (by omega), List.length_cons]
      congr 1
      omega
    rw [e1, e2]
    simp
theorem fill_one (place : Nat → Option (Nat × Nat)) (base : List Value) (i : Nat) (v : Value) (rest : List (Nat × Value)) (off size : Nat) (h : place i = some (off, size)) (hv : v.cells.size = size) (hb : off + size ≤ base.length) :
    Instr.fill place base.toArray ((i, v) :: rest) = Instr.fill place (base.take off ++ v.cells.toList ++ base.drop (off + size)).toArray rest := by
  have := foldl_set off v.cells.toList 0 base (by simp; omega)
  have e : (v.cells.zipIdx.foldl (fun (cs : Array Value) (p : Value × Nat) => cs.setIfInBounds (off + p.2) p.1) base.toArray) = (base.take off ++ v.cells.toList ++ base.drop (off + size)).toArray := by
    rw [← Array.foldl_toList, Array.toList_zipIdx, this]
    simp [hv]
  rw [Instr.fill, h]
  simp only []
  rw [if_neg (by simp [hv]; omega)]
  congr 1
def zeroPut : List Value := .int .i64 0 :: List.replicate 32 (Value.int .u8 0)
theorem built_put_shape : (fun parts => Try.prog.built 73 parts) = fun parts => Instr.fill ((#[(0, 1), (1, 32)] : Array (Nat × Nat))[·]?) zeroPut.toArray parts := by kernel_rfl
theorem built_puts_shape : (fun parts => Try.prog.builtSlice 73 1 parts) = fun parts => Instr.fill (fun i => some (i * 33, 33)) zeroPut.toArray parts := by kernel_rfl
theorem built_put (i : Int) (cs : List Value) (h : cs.length = 32) : Try.prog.built 73 [(0, .int .i64 i), (1, .agg cs.toArray)] = some (.int .i64 i :: cs).toArray := by
  have e := congrFun built_put_shape [(0, .int .i64 i), (1, .agg cs.toArray)]
  rw [e, fill_one _ _ _ _ _ 0 1 rfl rfl (by decide)]
  have e2 : (zeroPut.take 0 ++ (Value.int .i64 i).cells.toList ++ zeroPut.drop (0 + 1)) = .int .i64 i :: List.replicate 32 (Value.int .u8 0) := by simp [zeroPut, Value.cells]
  rw [e2, fill_one _ _ _ _ _ 1 32 rfl (by simp [Value.cells, h]) (by simp)]
  simp [Instr.fill, Value.cells]
theorem built_puts (cs : List Value) (h : cs.length = 33) : Try.prog.builtSlice 73 1 [(0, .agg cs.toArray)] = some cs.toArray := by
  have e := congrFun built_puts_shape [(0, .agg cs.toArray)]
  rw [e, fill_one _ _ _ _ _ 0 33 (by simp) (by simp [Value.cells, h]) (by decide)]
  simp [Instr.fill, Value.cells, zeroPut]
end Go.Proofs.Ytgakkghlphnoaaa
