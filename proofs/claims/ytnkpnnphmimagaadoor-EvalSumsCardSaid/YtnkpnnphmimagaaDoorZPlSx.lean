/-
  The pure layer: a slice of an array that lies in a variable: its length, its elements. No condition.
-/
import Derived.Test.YtnkpnnphmimagaaDoorZC
namespace Go.Proofs.YtnkpnnphmimagaaDoor
set_option linter.unusedSimpArgs false
set_option linter.unusedVariables false
open Go.RowKit

theorem inB_sx {β : Bx} {id n c : Nat} (h : (look id β).isSome = true) : (A.sx id n c).inB β := fun e => by rw [e] at h; cases h
section
variable {P : Program} {dst : Option Nat} {ty : TypeId} {e : Operand → A} {β : Bx} {T : TypeId} {x y : Operand}
theorem does_len_sx {t : TyI} {el : TypeId} {id n c : Nat} (ht : mkTy P T = some t) (hk : t.kind = .slice el) (hx : e x = .sx id n c) : Does P dst (.call { callee := .builtin .len, args := #[x], argTypes := #[T] }) ty e β (.d (iD n)) [] [] :=
  Does.of_run fun C γ _ ρ I w _ a hops o ho _ => by
    have h1 := (hops x (by simp [Op.operands, Call.operands])).2
    rw [hx] at h1
    obtain ⟨g, _, h1⟩ := h1
    exact ⟨_, by simp [execOp, ho, resolve, invoke, builtin, Sem.run_bind, h1, run_len_slice ht hk], trivial, rfl, rfl⟩
theorem does_index_sx {el : TypeId} {t te : TyI} {id m c i off : Nat} {k : IntKind} {n : Int} (ht : mkTy P T = some t) (hk : t.kind = .slice el) (hte : mkTy P el = some te) (hx : e x = .sx id m c) (hy : e y = .d (.sc (.int k n))) (hn : n = (i : Int)) (hi : i < m) (ho : i * te.size = off) :
    Does P dst (.indexAddr T x y) ty e β (.px id off) [] [] :=
  Does.of_run fun C γ _ ρ I w _ a hops o hop _ => by
    have h1 := hops x (by simp [Op.operands])
    have h2 := (hops y (by simp [Op.operands])).2
    rw [hx] at h1
    rw [hy] at h2
    have h2 := repA_sc h2
    subst hn ho
    obtain ⟨hb, g, h3, h4⟩ := h1
    refine ⟨.pointer (some ⟨g, 0 + i * te.size, none⟩), ?_, hb, g, h3, by rw [Nat.zero_add]⟩
    simp only [execOp, hop, h4, h2, Sem.run_bind, run_indexAt_slice ht hk hte hi]
    rfl
end
end Go.Proofs.YtnkpnnphmimagaaDoor

