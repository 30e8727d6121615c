/-
  The pure layer: arrays and structs held against each other, cell by cell. No condition.
-/
import Derived.Test.YtaibgoobghmfjaaDoorPlEq
import Derived.DeepKeys
namespace Go.Proofs.YtaibgoobghmfjaaDoor
set_option linter.unusedSimpArgs false
set_option linter.unusedVariables false
open Go.RowKit

theorem repC_inv {I : Nat → Prop} {w : World} {o : Bool} : ∀ {vs : List Value} {us : List Value}, RepC I w o (vs.map D.sc) us → us = vs
  | [], us, h => h
  | v :: vs, us, h => by
    obtain ⟨u, us', rfl, _, hu, hr⟩ := h
    rw [repC_inv hr, hu.1]
theorem keyLits_arr {P : Program} {d : Nat} {T el : TypeId} {n : Nat} (hu : P.underlying T = some (.array n el)) (hc : P.cellsOf T = n) (he : P.cellsOf el = 1) {l : List Value} (hl : l.length = n) (f : Value → Lit) (hk : ∀ v ∈ l, P.keyLits d el [v] = some [f v]) : P.keyLits (d + 1) T l = some (l.map f) := by
  have key : ∀ (r : List Value) (k : Nat), l.drop k = r → (List.range' k r.length).mapM (fun i => P.keyLits d el ((l.drop (i * P.cellsOf el)).take (P.cellsOf el))) = some (r.map fun v => [f v]) := by
    intro r
    induction r with
    | nil => intro k _; rfl
    | cons v r ih =>
      intro k hr
      have h1 : l.drop (k + 1) = r := by
        have := congrArg (List.drop 1) hr
        rw [List.drop_drop] at this
        simpa using this
      have hm : v ∈ l := List.mem_of_mem_drop (by rw [hr]; simp)
      rw [List.length_cons, List.range'_succ, List.mapM_cons, ih (k + 1) h1, he, Nat.mul_one, hr]
      simp only [List.take_succ_cons, List.take_zero, hk v hm]
      rfl
  unfold Program.keyLits
  rw [hu]
  have h0 := key l 0 (List.drop_zero ..)
  rw [hl, ← List.range_eq_range'] at h0
  simp only [hl, hc, if_true, h0, Option.map_some]
  congr 1
  clear h0 key hk hl
  induction l with
  | nil => rfl
  | cons v l ih => simp [ih]
section
variable {P : Program} {dst : Option Nat} {ty : TypeId} {e : Operand → A} {β : Bx} {T T' : TypeId} {x y : Operand} {m d d' : Nat} {vs us : List Value} {lx ly : List Lit} {xs ys : List D}
theorem does_eqK (hx : e x = .d (.ag xs)) (hy : e y = .d (.ag ys)) (hxs : xs = vs.map D.sc) (hys : ys = us.map D.sc) (hk : P.keyTypeAt m T = true) (hm : m ≤ 10000) (hg : P.eqGuardType P.depth T = false)
    (hr : (match P.underlying T with | some (.struct _) | some (.array _ _) => true | _ => false) = true) (hn : vs.length = P.cellsOf T) (hn' : us.length = P.cellsOf T) (hlx : P.keyLits d T vs = some lx) (hly : P.keyLits d' T us = some ly) {b : Bool} (hbe : b = true ↔ lx = ly) : Does P dst (.binOp .eql T x y T') ty e β (.d (bD b)) [] [] :=
  Does.of_run fun C γ _ ρ I w _ a hops o ho _ => by
    have h1 := (hops x (by simp [Op.operands])).2
    have h2 := (hops y (by simp [Op.operands])).2
    rw [hx, hxs] at h1
    rw [hy, hys] at h2
    obtain ⟨ua, h1, r1⟩ := h1
    obtain ⟨ub, h2, r2⟩ := h2
    have q1 := repC_inv r1
    have q2 := repC_inv r2
    have form : ∀ {u : Array Value} {v : List Value}, u.toList = v → v.length = P.cellsOf T → (Value.agg u).formed P T = true := by
      intro u v e1 e2
      have : u.size = P.cellsOf T := by rw [← e2, ← e1]; simp
      unfold Value.formed
      split at hr
      · rename_i e3; simp only [e3]; simpa using this
      · rename_i e3; simp only [e3]; simpa using this
      · cases hr
    obtain ⟨r, p1, p2⟩ := run_equalIn_deep (P := P) (10000 - m) m T hk w d d' (.agg ua) (.agg ub) lx ly (form q1 hn) (form q2 hn') (by simpa [Value.cells, q1] using hlx) (by simpa [Value.cells, q2] using hly)
    rw [show 10000 - m + m = 10000 by omega] at p1
    have hb : r = b := by rw [Bool.eq_iff_iff, p2, hbe]
    refine ⟨.bool r, ?_, trivial, by rw [hb], rfl⟩
    simp only [execOp, ho, h1, h2, Sem.run_bind, run_eqGuard_agg w .eql T x y ua ub hg, Result.andThen_ok, run_eql_struct, p1, Sem.run_pure]
theorem does_eqK_same (hx : e x = .d (.ag xs)) (hy : e y = .d (.ag xs)) (hxs : xs = vs.map D.sc) (hk : P.keyTypeAt m T = true) (hm : m ≤ 10000) (hg : P.eqGuardType P.depth T = false)
    (hr : (match P.underlying T with | some (.struct _) | some (.array _ _) => true | _ => false) = true) (hn : vs.length = P.cellsOf T) (hlx : P.keyLits d T vs = some lx) : Does P dst (.binOp .eql T x y T') ty e β (.d (bD true)) [] [] :=
  does_eqK hx hy hxs hxs hk hm hg hr hn hn hlx hlx ⟨fun _ => rfl, fun _ => rfl⟩
end
end Go.Proofs.YtaibgoobghmfjaaDoor
