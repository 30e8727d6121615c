/-
  The pure layer: a function that defers one closure, which does nothing where the function returns. No condition.
-/
import Derived.Test.YtlpnnnmdkglkcaaDoorZG
import Derived.Defers
import Derived.Recover
set_option linter.unusedSimpArgs false
set_option linter.unusedVariables false
namespace Go.Proofs.YtlpnnnmdkglkcaaDoor
open Go.RowKit

theorem Mem.dfs {C : Ctx} {β : Bx} {ρ : Nat → Value} {I : Nat → Prop} {w : World} (h : Mem C β ρ I w) (l : List Deferred) : Mem { C with dfs := l } β ρ I w :=
  ⟨h.os, h.tape, h.output, h.size, h.frame, h.imm, h.new, h.box, h.own, h.inj, h.clo, h.gl⟩
section
variable {P : Program}
def Quiet (P : Program) (g : FuncId) (n : Nat) : Prop := ∀ (args : Array Value) (w : World), args.size = n → CallsD P g args .returning w fun e u' w' => (∃ v, e = .returned v) ∧ u' = .returning ∧ w' = w
def DefR (P : Program) (c4 : Code) (g : FuncId) (n t : Nat) : Prop := ∀ (Q : Exit → Act → World → Prop) (a : Act) (w : World), t < a.tmps.size →
  (∀ cap v : _, cap.size = n → Q .normal { tmps := a.tmps.setIfInBounds t v, defers := { target := .fn (.func g) cap, args := #[] } :: a.defers } w) → c4.wp P Q a w
theorem pc_of_aw_d {f : FuncId} {fn : Func} {c0 c1 c3 c4 X : Code} {ds : List D} {r : D} {rs : List ResultVar} {s3 : St} {g : FuncId} {n t : Nat} (hf : P.funcs[f]? = some fn) (hb : fn.body = some (.seq c0 (.seq c1 (.seq c3 (.seq c4 X)))))
    (hn : (fn.name == "runtime.NumGoroutine") = false) (hmx : P.follows .mixedOrders = true) (hok : qB8 (fun _ => false) fn.ntmps (.seq c0 (.seq c1 (.seq c3 (.seq c4 X)))) = true) (hds : ds.length ≤ fn.ntmps) (hrs : fn.results = rs.toArray)
    (hA : AW P (.seq c0 (.seq c1 c3)) (fun e s => e = .normal ∧ Ent s s3) ⟨argS 0 ds, []⟩) (h4 : DefR P c4 g n t) (ht : look t s3.σ = none) (htn : t < fn.ntmps) (hg : qEG P g) (hq : Quiet P g n) (hX : AW P X (retE P rs r) s3) : PC P f ds r := by
  refine ⟨qCu hf hb hn, fun I w vs hI hr => ?_⟩
  refine calls_of_wp_defers hf hb ?_
  have hvl := qBP hr
  rw [Array.length_toList] at hvl
  let C : Ctx := { w0 := w, PB := fun _ => False, I0 := I, N := fn.ntmps, K := fun _ => false, args := fun _ => undef }
  have hat : At C ⟨argS 0 ds, []⟩ { tmps := vs ++ Array.replicate (fn.ntmps - vs.size) undef, defers := [] } w := by
    refine ⟨fun _ => undef, I, ⟨rfl, rfl, rfl, Nat.le_refl _, fun _ _ _ => rfl, hI.1, fun g hg => .inl hg, fun id b h => by (cases h), fun id b g h => by (cases h), fun i j b b' g h => by (cases h), fun id b h => by (cases h), hI.2⟩, rfl, ?_, fun t ht => (by cases ht), fun t v ht => ?_⟩
    · show (vs ++ Array.replicate (fn.ntmps - vs.size) undef).size = fn.ntmps
      simp; omega
    · obtain ⟨i, d, h1, h2, rfl⟩ := qEE ht
      obtain ⟨u, h3, h4, _⟩ := qDs hr h2
      have hlt : i < vs.size := by rw [← Array.length_toList]; exact (List.getElem?_eq_some_iff.1 h3).1
      rw [Nat.zero_add] at h1
      subst h1
      refine ⟨by show t < fn.ntmps; omega, trivial, ?_⟩
      have e1 : (vs ++ Array.replicate (fn.ntmps - vs.size) undef).getD t undef = u := by
        rw [Array.getD_eq_getD_getElem?, Array.getElem?_append_left hlt]
        have : vs[t]? = some u := by simpa using h3
        rw [this]; rfl
      show RepD I w d ((vs ++ Array.replicate (fn.ntmps - vs.size) undef).getD t undef)
      rw [e1]; exact h4
  simp only [qB8, Bool.and_eq_true] at hok
  obtain ⟨k0, k1, k3, k4, kX⟩ := hok
  have hA : AW P c0 (qDU (AW P c1 (qDU (AW P c3 (fun e s => e = .normal ∧ Ent s s3)) (fun e s => e = .normal ∧ Ent s s3))) (fun e s => e = .normal ∧ Ent s s3)) ⟨argS 0 ds, []⟩ := hA
  have hdead : ∀ {e : Exit} {s : St} {p : Prop}, e ≠ .normal → (e = .normal ∧ Ent s s3) → p := fun h h2 => absurd h2.1 h
  refine wp_seq (wp_mono (qBN hmx (C := C) c0 _ _ _ w k0 hA hat) fun e a1 w1 hq1 => ?_)
  obtain ⟨s1, hq1, at1⟩ := hq1
  cases e with
  | normal =>
    refine wp_seq (wp_mono (qBN hmx (C := C) c1 _ _ _ w1 k1 hq1 at1) fun e a2 w2 hq2 => ?_)
    obtain ⟨s2, hq2, at2⟩ := hq2
    cases e with
    | normal =>
      refine wp_seq (wp_mono (qBN hmx (C := C) c3 _ _ _ w2 k3 hq2 at2) fun e a3 w3 hq3 => ?_)
      obtain ⟨s, ⟨rfl, hE⟩, at3⟩ := hq3
      have at3 := hE _ _ _ at3
      obtain ⟨ρ, J, hm, hfr⟩ := at3
      refine wp_seq (h4 _ _ _ (by rw [hfr.size]; exact htn) fun cap v hcap => ?_)
      let C' : Ctx := { C with dfs := [{ target := .fn (.func g) cap, args := #[] }] }
      have hd3 : a3.defers = [] := hfr.defers
      have at4 : At C' s3 { tmps := a3.tmps.setIfInBounds t v, defers := { target := .fn (.func g) cap, args := #[] } :: a3.defers } w3 := by
        refine ⟨ρ, J, hm.dfs _, by rw [hd3], by show (a3.tmps.setIfInBounds t v).size = _; rw [Array.size_setIfInBounds]; exact hfr.size, fun t ht => (by cases ht), fun t' u hu => ?_⟩
        obtain ⟨q1, q2, q3⟩ := hfr.val t' u hu
        refine ⟨q1, q2, ?_⟩
        have hne : t ≠ t' := fun e => by rw [e] at ht; rw [ht] at hu; cases hu
        have : (a3.tmps.setIfInBounds t v).getD t' undef = a3.tmps.getD t' undef := by simp [Array.getD_eq_getD_getElem?, Array.getElem?_setIfInBounds_ne hne]
        show RepA ρ J w3 u ((a3.tmps.setIfInBounds t v).getD t' undef)
        rw [this]; exact q3
      refine wp_mono (qBN hmx (C := C') X _ _ _ w3 kX hX at4) fun e a5 w5 hq5 => ?_
      obtain ⟨s5, hq5, at5⟩ := hq5
      have hfin : RetOk P rs r s5 → Leaves P fn a5.tmps (fun e w' => ∃ v, e = .returned v ∧ RepD (fun g => (I g ∨ w.heap.size ≤ g) ∧ g < w'.heap.size) w' r v ∧ Below w.heap.size w w') a5.defers .returning w5 := by
        rintro ⟨vs', ds', h1, h2, hsub⟩
        obtain ⟨ρ5, J5, m5, f5⟩ := at5
        obtain ⟨us, b1, b2, b3⟩ := qDe m5 f5 h1
        obtain ⟨J', m1, x1, r1, _⟩ := qCm _ _ ds' s5.β J5 m5 b2 b3 h2
        have hul := qBP r1
        have hx : ExtI J' w5 (fun g => (I g ∨ w.heap.size ≤ g) ∧ g < w5.heap.size) w5 := ⟨fun g hg => ⟨by
          rcases m1.new g hg with h | h | h
          · exact .inl h
          · exact .inr h
          · exact h.elim, m1.imm g hg⟩, fun _ _ => rfl⟩
        have hbel : Below w.heap.size w w5 := ⟨m1.os, m1.tape, m1.output, m1.size, fun k hk => m1.frame k hk (fun h => h)⟩
        have hd5 : a5.defers = [{ target := .fn (.func g) cap, args := #[] }] := f5.defers
        rw [hd5]
        refine leaves_cons (f := g) (args := cap) (by simp) (by simp [go_sem]; exact hg cap w5) ?_
        refine (hq cap w5 hcap).mono ?_
        rintro e u' w6 ⟨⟨v0, rfl⟩, rfl, rfl⟩
        refine ⟨(if h : us.toArray.size = 1 then us.toArray[0] else .tuple us.toArray), ?_, _, rfl, ?_, hbel⟩
        · have hrm : ∀ fn' : Func, fn'.results = rs.toArray → results fn' a5.tmps = (do
              let vs ← rs.toArray.mapM (qEf a5.tmps)
              pure (if h : vs.size = 1 then vs[0] else .tuple vs)) := fun fn' h' => by
            unfold results
            rw [h']
            congr 1
          rw [hrm fn hrs, List.mapM_toArray]
          simp only [map_eq_pure_bind, bind_assoc, pure_bind, Sem.run_bind, b1, Result.andThen_ok, Sem.run_pure]
        · refine hsub _ _ _ ?_
          cases ds' with
          | nil =>
            cases r1
            refine ⟨#[], by rfl, rfl⟩
          | cons d ds1 =>
            obtain ⟨u, us1, rfl, _, hd, hrest⟩ := r1
            cases ds1 with
            | nil =>
              cases hrest
              exact RepD.ext hx d u hd
            | cons d2 ds2 =>
              have hl2 := qBP hrest
              rw [dif_neg (by simp [hl2])]
              refine ⟨_, rfl, ?_⟩
              have := RepC.ext hx false (d :: d2 :: ds2) (u :: us1) ⟨u, us1, rfl, fun h => by (cases h), hd, hrest⟩
              simpa using this
      cases e with
      | normal => exact hfin hq5
      | ret => exact hfin hq5
      | _ => exact hq5.elim
    | _ => exact hdead (by simp) hq2
  | _ => exact hdead (by simp) hq1
end
end Go.Proofs.YtlpnnnmdkglkcaaDoor

