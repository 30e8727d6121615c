/-
  The pure layer: functions of Go's library without a body; floats held against each other. No condition.
-/
import Derived.Test.YtnkpnnphmimagaaDoorZB
namespace Go.Proofs.YtnkpnnphmimagaaDoor
set_option linter.unusedSimpArgs false
set_option linter.unusedVariables false
open Go.RowKit

/-- A function without a body, that does what g does. -/
structure ExtF (P : Program) (f : FuncId) (g : Array Value → Sem Value) : Prop where
  has : ∃ fn, P.funcs[f]? = some fn ∧ (fn.name == "runtime.NumGoroutine") = false ∧ fn.body.isNone = true ∧ Extern.findNext fn = none ∧ Extern.find fn = some g
theorem run_ext {P : Program} {f : FuncId} {g : Array Value → Sem Value} (h : ExtF P f g) {args : Array Value} {w : World} {v : Value} (hg : (g args).run P w = .ok v w) : (callFunc f args).run P w = .ok (.value v) w := by
  obtain ⟨fn, hf, hn, hb, hx, he⟩ := h.has
  unfold callFunc
  have : ¬ fn.name = "runtime.NumGoroutine" := by simpa using hn
  have hb2 : fn.body = none := by simpa using hb
  have hm : Sem.run P (Sem.mark (Mark.extern f) (Sem.pure ())) w = .ok () w := rfl
  simp [Sem.run_bind, hf, hb2, this, mark, hx, he, hg, hm]
section
variable {P : Program} {dst : Option Nat} {ty : TypeId} {e : Operand → A} {β : Bx} {T T' : TypeId} {x y : Operand}
theorem does_ext1 {f : FuncId} {g : Array Value → Sem Value} {z : Operand} {ts : Array TypeId} {u v : Value} (hf : ExtF P f g) (hx : e x = .fn (.func f) [] []) (hz : e z = .d (.sc u)) (hg : ∀ w, (g #[u]).run P w = .ok v w) (hv : v.oneCell' = true) :
    Does P dst (.call { callee := .value x, args := #[z], argTypes := ts }) ty e β (.d (.sc v)) [] [] :=
  Does.of_run fun C γ _ ρ I w _ a hops o ho _ => by
    have h1 := (hops x (by simp [Op.operands, Call.operands])).2
    have h2 := (hops z (by simp [Op.operands, Call.operands])).2
    rw [hx] at h1
    rw [hz] at h2
    obtain ⟨us, vs, h1, h3, h4⟩ := h1
    have h3 : us.toList = [] := h3
    have h4 : vs.toList = [] := h4
    have e1 : us = #[] := by simpa using h3
    have e2 : vs = #[] := by simpa using h4
    subst e1 e2
    have h2 : a.eval z = u := (repA_sc h2)
    refine ⟨v, ?_, trivial, rfl, hv⟩
    simp only [execOp, ho, resolve, Sem.run_bind, h1, Deferred.ofValue, Sem.run_pure, Result.andThen_ok, invoke]
    have := run_ext hf (hg w)
    simpa [h2] using this
def fltD (b : Nat) : D := .sc (.float .f64 b)
def fltV (bo : BinOp) (a b : Nat) : Bool := match bo with
  | .lss => FloatKind.f64.format.order a b == some .lt
  | .gtr => FloatKind.f64.format.order a b == some .gt
  | .eql => FloatKind.f64.format.order a b == some .eq
  | .neq => FloatKind.f64.format.order a b != some .eq
  | _ => false
theorem does_flt {bo : BinOp} {a b : Nat} (hx : e x = .d (fltD a)) (hy : e y = .d (fltD b)) (hk : bo = .lss ∨ bo = .gtr ∨ bo = .eql ∨ bo = .neq) : Does P dst (.binOp bo T x y T') ty e β (.d (bD (fltV bo a b))) [] [] :=
  Does.of_run fun C γ _ ρ I w _ ac hops o ho _ => by
    have h1 := (hops x (by simp [Op.operands])).2
    have h2 := (hops y (by simp [Op.operands])).2
    rw [hx] at h1
    rw [hy] at h2
    have h1 := repA_sc h1
    have h2 := repA_sc h2
    refine ⟨.bool (fltV bo a b), ?_, trivial, rfl, rfl⟩
    unfold execOp
    simp only [ho, h1, h2]
    rcases hk with rfl | rfl | rfl | rfl <;> (simp [eqGuard, binOp, Op.floatCmp, fltV, Sem.run_bind]; done)
end
end Go.Proofs.YtnkpnnphmimagaaDoor

