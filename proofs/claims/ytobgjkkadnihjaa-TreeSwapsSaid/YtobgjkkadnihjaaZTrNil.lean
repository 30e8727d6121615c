/-
  The pure layer: pointers held against nil. No condition.
-/
import Derived.Test.YtobgjkkadnihjaaZTrOp
import Derived.Test.YtobgjkkadnihjaaZTl
namespace Go.Proofs.Ytobgjkkadnihjaa
set_option linter.unusedSimpArgs false
set_option linter.unusedVariables false
open Go.RowKit

section
variable {P : Program} {dst : Option Nat} {ty : TypeId} {e : Operand → A} {β : Bx} {T T' : TypeId} {x y : Operand} {E : TypeId}
theorem eq_pn {w : World} {p : Addr} (hT : P.underlying T = some (.pointer E)) : (Op.equal T (.pointer (some p)) (.pointer none)).run P w = .ok false w := by
  have h : ∀ d : Nat, (Op.equalIn (d + 1) T (.pointer (some p)) (.pointer none)).run P w = .ok false w := fun d => by simp [Op.equalIn, run_underlying hT]
  exact h 9999
theorem eq_nn {w : World} (hT : P.underlying T = some (.pointer E)) : (Op.equal T (.pointer none) (.pointer none)).run P w = .ok true w := by
  have h : ∀ d : Nat, (Op.equalIn (d + 1) T (.pointer none) (.pointer none)).run P w = .ok true w := fun d => by simp [Op.equalIn, run_underlying hT]
  exact h 9999
theorem does_eq_px {id off : Nat} (hT : P.underlying T = some (.pointer E)) (hx : e x = .px id off) (hy : e y = .d (.sc (.pointer none))) : Does P dst (.binOp .eql T x y T') ty e β (.d (bD false)) [] [] :=
  Does.of_run fun C γ _ ρ I w _ a hops o ho _ => by
    have h1 := (hops x (by simp [Op.operands])).2
    have h2 := (hops y (by simp [Op.operands])).2
    rw [hx] at h1
    rw [hy] at h2
    obtain ⟨g, _, h1⟩ := h1
    have h2 := repA_sc h2
    refine ⟨.bool false, ?_, trivial, rfl, rfl⟩
    unfold execOp
    simp only [ho, h1, h2]
    have h9 := eq_pn (w := w) (p := ⟨g, off, none⟩) hT
    simp [eqGuard, binOp, Sem.run_bind, h9]
theorem does_ne_px {id off : Nat} (hT : P.underlying T = some (.pointer E)) (hx : e x = .px id off) (hy : e y = .d (.sc (.pointer none))) : Does P dst (.binOp .neq T x y T') ty e β (.d (bD true)) [] [] :=
  Does.of_run fun C γ _ ρ I w _ a hops o ho _ => by
    have h1 := (hops x (by simp [Op.operands])).2
    have h2 := (hops y (by simp [Op.operands])).2
    rw [hx] at h1
    rw [hy] at h2
    obtain ⟨g, _, h1⟩ := h1
    have h2 := repA_sc h2
    refine ⟨.bool true, ?_, trivial, rfl, rfl⟩
    unfold execOp
    simp only [ho, h1, h2]
    have h9 := eq_pn (w := w) (p := ⟨g, off, none⟩) hT
    simp [eqGuard, binOp, Sem.run_bind, h9]
theorem does_eq_nn (hT : P.underlying T = some (.pointer E)) (hx : e x = .d (.sc (.pointer none))) (hy : e y = .d (.sc (.pointer none))) : Does P dst (.binOp .eql T x y T') ty e β (.d (bD true)) [] [] :=
  Does.of_run fun C γ _ ρ I w _ a hops o ho _ => by
    have h1 := (hops x (by simp [Op.operands])).2
    have h2 := (hops y (by simp [Op.operands])).2
    rw [hx] at h1
    rw [hy] at h2
    have h1 := repA_sc h1
    have h2 := repA_sc h2
    refine ⟨.bool true, ?_, trivial, rfl, rfl⟩
    unfold execOp
    simp only [ho, h1, h2]
    have h9 := eq_nn (w := w) hT
    simp [eqGuard, binOp, Sem.run_bind, h9]
theorem does_ne_nn (hT : P.underlying T = some (.pointer E)) (hx : e x = .d (.sc (.pointer none))) (hy : e y = .d (.sc (.pointer none))) : Does P dst (.binOp .neq T x y T') ty e β (.d (bD false)) [] [] :=
  Does.of_run fun C γ _ ρ I w _ a hops o ho _ => by
    have h1 := (hops x (by simp [Op.operands])).2
    have h2 := (hops y (by simp [Op.operands])).2
    rw [hx] at h1
    rw [hy] at h2
    have h1 := repA_sc h1
    have h2 := repA_sc h2
    refine ⟨.bool false, ?_, trivial, rfl, rfl⟩
    unfold execOp
    simp only [ho, h1, h2]
    have h9 := eq_nn (w := w) hT
    simp [eqGuard, binOp, Sem.run_bind, h9]
end
end Go.Proofs.Ytobgjkkadnihjaa

namespace Go.Proofs.Ytobgjkkadnihjaa
theorem ptrNode : Try.prog.underlying 55 = some (.pointer 64) := by kernel_rfl
end Go.Proofs.Ytobgjkkadnihjaa

