/-
  The pure layer: an element of an array that is a value. No condition.
-/
import Derived.Test.YtpaccaojgbfjdaaDoorZB
set_option linter.unusedSimpArgs false
set_option linter.unusedVariables false
namespace Go.Proofs.YtpaccaojgbfjdaaDoor
open Go.RowKit

section
variable {P : Program} {dst : Option Nat} {ty : TypeId} {e : Operand → A} {β : Bx} {T el : TypeId} {x y : Operand}
theorem qD3 {t te : TyI} {len esz i : Nat} {er : Bool} {k : IntKind} {n : Int} {cs : List D} (ht : mkTy P T = some t) (hk : t.kind = .array len el esz er) (hte : mkTy P el = some te) (hr : te.row = true) (hx : e x = .d (.ag cs)) (hy : e y = .d (.sc (.int k n))) (hn : n = (i : Nat)) (hi : i < len) (hl : cs.length = len * te.size) :
    Does P dst (.index T x y) ty e β (.d (.ag ((cs.drop (i * te.size)).take te.size))) [] [] :=
  Does.of_run fun C γ _ ρ I w _ a hops o ho _ => by
    have q1 := (hops x (by simp [Op.operands])).2
    have q2 := (hops y (by simp [Op.operands])).2
    rw [hx] at q1
    rw [hy] at q2
    have q2 := qBv q2
    obtain ⟨us, q1, q3⟩ := q1
    subst hn
    obtain ⟨_, d, z, _, hu, _, _, _, _, _, hkd⟩ := qBu ht
    obtain ⟨rfl, _, _⟩ := qDM (hkd.symm.trans hk)
    have hlen := qBS q3
    have hin : (0 : Int) ≤ i ∧ (i : Int) < len := ⟨by omega, by omega⟩
    have hex : (us.extract (i * te.size) (i * te.size + te.size)).toList = (us.toList.drop (i * te.size)).take te.size := by
      rw [Array.toList_extract, List.extract_eq_take_drop]
      congr 1
      omega
    refine ⟨.agg (us.extract (i * te.size) (i * te.size + te.size)), ?_, trivial, _, rfl, by rw [hex]; exact qEA _ (qEu _ q3)⟩
    have hp := part_run hte (cs := us) (off := i * te.size) w
    rw [if_pos hr] at hp
    have h0 : (0 : Int) ≤ i := by omega
    simp [execOp, ho, q1, q2, Instr.index, asIntOf, Sem.run_bind, run_underlying hu, hi, qCE hte, hp]
end
end Go.Proofs.YtpaccaojgbfjdaaDoor

