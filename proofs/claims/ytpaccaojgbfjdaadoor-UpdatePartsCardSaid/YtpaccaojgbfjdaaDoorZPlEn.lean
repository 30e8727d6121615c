/-
  The pure layer: nil, seen as a row of the call's own that has nothing. No condition.
-/
import Derived.Test.YtpaccaojgbfjdaaDoorZB
set_option linter.unusedSimpArgs false
set_option linter.unusedVariables false
namespace Go.Proofs.YtpaccaojgbfjdaaDoor
open Go.RowKit

theorem ent_nilrow {σ : Sl} {β : Bx} (t fr : Nat) (el : TypeId) (sz : Nat) (h : look t σ = some (.d .nl)) (hf : look fr β = none) : Ent ⟨σ, β⟩ ⟨(t, .ow fr 0) :: σ, (fr, .row el sz []) :: β⟩ := by
  rintro C a w ⟨ρ, I, hm, hfr⟩
  have hg : w.grownBy w none := ⟨rfl, rfl, rfl, Nat.le_refl _, fun _ _ _ => rfl⟩
  obtain ⟨m1, x1⟩ := hm.new_box (fr := fr) hf (v := .slice none 0 0) (b := .row el sz []) hg (fun g h => by cases h) (fun hx => ⟨[], by
    rw [qBI]
    exact ⟨by simp, .inl ⟨rfl, rfl⟩⟩, rfl⟩) trivial
  refine ⟨_, I, m1, hfr.defers, hfr.size, hfr.keep, fun t' v hv => ?_⟩
  rw [qA1] at hv
  split at hv
  · rename_i e
    subst e
    injection hv with hv
    subst hv
    obtain ⟨q1, q2, q3⟩ := hfr.val t _ h
    refine ⟨q1, ?_, ?_⟩
    · show look fr ((fr, Box.row el sz []) :: β) ≠ none
      rw [qA1, if_pos rfl]
      simp
    · have q3 : a.tmps.getD t undef = .slice none 0 0 := q3
      refine ⟨?_, none, 0, q3, Nat.le_refl _, fun h => absurd h (by decide)⟩
      rw [qBI]
      exact q3
  · obtain ⟨q1, q2, q3⟩ := hfr.val t' v hv
    exact ⟨q1, A.inB_mono (fun i hi => qBC (γ := [(fr, Box.row el sz [])]) hi) v q2, RepA.ext x1 v _ q2 q3⟩
end Go.Proofs.YtpaccaojgbfjdaaDoor

