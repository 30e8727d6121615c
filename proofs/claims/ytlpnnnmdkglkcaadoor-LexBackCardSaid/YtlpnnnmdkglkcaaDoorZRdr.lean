/-
  The reader of tokens of package expr: is, take, want, two, lit. No condition but the sizes.
-/
import Derived.Test.YtlpnnnmdkglkcaaDoorZLexC
import Derived.Test.YtlpnnnmdkglkcaaDoorZG
import Derived.Test.YtlpnnnmdkglkcaaDoorZI
set_option linter.unusedSimpArgs false
set_option linter.unusedVariables false
namespace Go.Proofs.YtlpnnnmdkglkcaaDoor
open Go.RowKit

section
variable {P : Program} {dst : Option Nat} {ty : TypeId} {e : Operand → A} {β : Bx} {T T' : TypeId} {x y : Operand} {m n : Int} {b : Bool}
theorem qBp (hd : decide (m < n) = b) (hx : e x = .d (iD m)) (hy : e y = .d (iD n)) : Does P dst (.binOp .lss T x y T') ty e β (.d (bD b)) [] [] := by
  subst hd; exact qBm hx hy
theorem qD6 (hd : decide (m ≥ n) = b) (hx : e x = .d (iD m)) (hy : e y = .d (iD n)) : Does P dst (.binOp .geq T x y T') ty e β (.d (bD b)) [] [] := by
  subst hd; exact qCZ hx hy
end
theorem bytes_eq {a b : ByteArray} : a.toList = b.toList ↔ a = b := by
  constructor
  · intro h
    rw [ByteArray.toList_eq, ByteArray.toList_eq] at h
    exact ByteArray.ext (Array.ext' h)
  · rintro rfl
    rfl
theorem tkEq {a b : Tk} {c : Bool} (hc : decide (a = b) = c) : qEn [.i, .s, .i, .i] a.cs b.cs = some c := by
  subst hc
  show some ((a.k == b.k) && ((a.t.toList == b.t.toList) && ((a.n == b.n) && (((a.b : Int) == (b.b : Int)) && true)))) = _
  congr 1
  rw [Bool.eq_iff_iff, decide_eq_true_eq]
  simp only [Bool.and_eq_true, beq_iff_eq, bytes_eq, and_true]
  obtain ⟨ak, at_, an, ab⟩ := a
  obtain ⟨bk, bt, bn, bb⟩ := b
  simp only [Tk.mk.injEq]
  constructor
  · rintro ⟨h1, h2, h3, h4⟩
    exact ⟨h1, h2, h3, by omega⟩
  · rintro ⟨h1, h2, h3, h4⟩
    exact ⟨h1, h2, h3, by omega⟩
end Go.Proofs.YtlpnnnmdkglkcaaDoor

