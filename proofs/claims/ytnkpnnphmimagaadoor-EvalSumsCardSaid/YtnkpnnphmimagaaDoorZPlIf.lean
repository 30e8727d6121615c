/-
  The pure layer: values of interfaces, calls by a method's name, questions for a type. No condition.
-/
import Derived.Test.YtnkpnnphmimagaaDoorZC
namespace Go.Proofs.YtnkpnnphmimagaaDoor
set_option linter.unusedSimpArgs false
set_option linter.unusedVariables false
open Go.RowKit

/-- The value that data of one cell each stand for. -/
def valsC : List D → Option (List Value)
  | [] => some []
  | .sc v :: r => (valsC r).map (v :: ·)
  | _ => none
def valD : D → Option Value
  | .sc v => some v
  | .ag cs => (valsC cs).map fun l => .agg l.toArray
  | _ => none
def valA : A → Option Value
  | .d x => valD x
  | .ag cs => match frz1s [] cs with
    | some ds => (valsC ds).map fun l => .agg l.toArray
    | none => none
  | _ => none
theorem valsC_rep {I : Nat → Prop} {w : World} {o : Bool} : ∀ {ds : List D} {us vs : List Value}, RepC I w o ds us → valsC ds = some vs → us = vs
  | [], us, vs, h, hv => by
    cases h
    simp only [valsC, Option.some.injEq] at hv
    exact hv
  | .sc v :: r, _, vs, ⟨u, us, rfl, _, h1, h2⟩, hv => by
    unfold valsC at hv
    cases hr : valsC r with
    | none => rw [hr] at hv; cases hv
    | some l =>
      rw [hr] at hv
      simp only [Option.map_some, Option.some.injEq] at hv
      rw [← hv, valsC_rep h2 hr, h1.1]
  | .nl :: _, _, _, _, hv => by cases hv
  | .sl _ _ :: _, _, _, _, hv => by cases hv
  | .ag _ :: _, _, _, _, hv => by cases hv
  | .tu _ :: _, _, _, _, hv => by cases hv
theorem valD_rep {I : Nat → Prop} {w : World} {d : D} {u v : Value} (h : RepD I w d u) (hv : valD d = some v) : u = v := by
  cases d with
  | sc x =>
    simp only [valD, Option.some.injEq] at hv
    rw [← hv]; exact h.1
  | ag cs =>
    obtain ⟨us, rfl, h⟩ := h
    simp only [valD] at hv
    cases hc : valsC cs with
    | none => rw [hc] at hv; cases hv
    | some l =>
      rw [hc] at hv
      simp only [Option.map_some, Option.some.injEq] at hv
      rw [← hv, ← valsC_rep h hc]
  | _ => cases hv
theorem frz1s_nil_rep {ρ : Nat → Value} {I : Nat → Prop} {w : World} {o : Bool} : ∀ {cs : List A} {ds : List D} {us : List Value}, frz1s [] cs = some ds → RepAs ρ I w o cs us → RepC I w o ds us
  | [], ds, us, h, hr => by
    simp only [frz1s, Option.some.injEq] at h
    subst h
    exact hr
  | c :: cs, ds, _, h, ⟨u, us, rfl, ho, h1, h2⟩ => by
    simp only [frz1s] at h
    split at h
    · rename_i d ds' hd hds
      simp only [Option.some.injEq] at h
      subst h
      cases c with
      | d x =>
        simp only [frz1, Option.some.injEq] at hd
        subst hd
        exact ⟨u, us, rfl, ho, h1, frz1s_nil_rep hds h2⟩
      | ow id n => simp [frz1, rowsOf, look] at hd
      | _ => cases hd
    · cases h
theorem valA_rep {ρ : Nat → Value} {I : Nat → Prop} {w : World} {x : A} {u v : Value} (h : RepA ρ I w x u) (hv : valA x = some v) : u = v := by
  cases x with
  | d x => exact valD_rep h hv
  | ag cs =>
    obtain ⟨us, rfl, h⟩ := h
    simp only [valA] at hv
    split at hv
    · rename_i ds hds
      cases hc : valsC ds with
      | none => rw [hc] at hv; cases hv
      | some l =>
        rw [hc] at hv
        simp only [Option.map_some, Option.some.injEq] at hv
        rw [← hv, ← valsC_rep (frz1s_nil_rep hds h) hc]
    · cases hv
  | _ => cases hv
def notIface (P : Program) (T : TypeId) : Bool := match P.underlying T with
  | some (.interface _) => false
  | some _ => true
  | none => false
section
variable {P : Program} {dst : Option Nat} {ty : TypeId} {e : Operand → A} {β : Bx}
theorem does_makeIface {T : TypeId} {x : Operand} {y : A} {v : Value} (hx : e x = y) (hv : valA y = some v) (ht : notIface P T = true) : Does P dst (.makeInterface T x) ty e β (.d (.sc (.iface T v))) [] [] :=
  Does.of_run fun C γ _ ρ I w _ a hops o ho _ => by
    have h1 := (hops x (by simp [Op.operands])).2
    rw [hx] at h1
    have h1 := valA_rep h1 hv
    refine ⟨.iface T v, ?_, trivial, rfl, rfl⟩
    unfold notIface at ht
    cases hu : P.underlying T with
    | none => rw [hu] at ht; cases ht
    | some d =>
      rw [hu] at ht
      cases d with
      | interface _ => cases ht
      | _ => simp [execOp, ho, Instr.makeInterface, underlying, hu, h1, Sem.run_bind]
/-- A method of a value behind an interface, with one argument: the receiver's data d0. -/
theorem does_invoke {x y : Operand} {name : String} {ts : Array TypeId} {T : TypeId} {v : Value} {d0 d1 r : D} {f : FuncId} (hx : e x = .d (.sc (.iface T v))) (hi : ∀ (x a1 : Value) (w : World), (invoke (.fn (.method name) #[]) #[.iface T x, a1]).run P w = .ok (.enter f #[x, a1]) w)
    (hd : ∀ I w, RepD I w d0 v) (hy : e y = .d d1) (hpc : PC P f [d0, d1] r) : Does P dst (.call { callee := .invoke x name, args := #[y], argTypes := ts }) ty e β (.d r) [] [] := by
  intro C γ hag ρ I w hm a hops o ho hdst hty K Q hK
  have h1 := (hops x (by simp [Op.operands, Call.operands])).2
  have h2 := (hops y (by simp [Op.operands, Call.operands])).2
  rw [hx] at h1
  rw [hy] at h2
  have h1 := repA_sc h1
  have h2 : RepD I w d1 (a.eval y) := h2
  have hrun : (execOp a.eval o).run P w = .ok (.enter f #[v, a.eval y]) w := by
    have := hi v (a.eval y) w
    simp only [execOp, ho, resolve, Sem.run_bind, Sem.run_pure, Result.andThen_ok, h1]
    simpa using this
  unfold Oper.wp
  rw [hrun, Oper.upon_enter]
  refine (hpc.calls I w _ ⟨hm.imm, hm.gl⟩ ⟨v, [a.eval y], rfl, (fun h => by cases h), hd I w, a.eval y, [], rfl, (fun h => by cases h), h2, rfl⟩).mono fun en w' ⟨u, he, hr, hb⟩ => ?_
  subst he
  have hm2 := hm.call hb
  simp only [hdst]
  exact hK u ρ _ w' (by simpa using hm2.1) hm2.2 trivial hr
end
end Go.Proofs.YtnkpnnphmimagaaDoor

