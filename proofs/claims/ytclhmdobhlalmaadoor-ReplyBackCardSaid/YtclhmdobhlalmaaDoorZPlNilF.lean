/-
  The pure layer: a field that holds nil holds an empty row of the call's own. No condition.
-/
import Derived.Test.YtclhmdobhlalmaaDoorZPlNil
namespace Go.Proofs.YtclhmdobhlalmaaDoor
set_option linter.unusedSimpArgs false
set_option linter.unusedVariables false
open Go.RowKit

section
variable {P : Program} {σ : Sl} {β : Bx}
theorem ent_nilF (i k rid : Nat) {T E : TypeId} {sz : Nat} {cs : List A} (hi : look i β = some (.var T cs)) (hk : cs[k]? = some (.d .nl)) (hf : look rid β = none) :
    Ent ⟨σ, β⟩ ⟨σ, (i, .var T (cs.set k (.ow rid 0))) :: (rid, .row E sz []) :: β⟩ := by
  rintro C a w ⟨ρ, I, hm, hfr⟩
  obtain ⟨m1, x1⟩ := hm.new_box hf (v := .slice none 0 0) (b := .row E sz []) (w' := w) (World.grownBy.refl w none) (fun g hg => by cases hg) (fun hx => ⟨[], by rw [upd_same]; exact World.ownsRow_nil w 0 E sz, rfl⟩) trivial
  have hir : i ≠ rid := by rintro rfl; rw [hi] at hf; cases hf
  have hi1 : look i ([(rid, Box.row E sz [])] ++ β) = some (.var T cs) := by
    rw [look_append, look_cons, if_neg (Ne.symm hir)]; exact hi
  have hst : ∀ {id : Nat} {b : Box}, look id ((i, .var T (cs.set k (.ow rid 0))) :: (rid, .row E sz []) :: β) = some b → ∃ b', look id ([(rid, Box.row E sz [])] ++ β) = some b' ∧ b'.live = b.live := fun {id b} hb => by
    rw [look_cons] at hb
    split at hb
    · rename_i e
      injection hb with hb
      subst hb
      subst e
      exact ⟨_, hi1, rfl⟩
    · exact ⟨b, hb, rfl⟩
  have hdm : ∀ {id : Nat}, dom ([(rid, Box.row E sz [])] ++ β) id → dom ((i, .var T (cs.set k (.ow rid 0))) :: (rid, .row E sz []) :: β) id := fun {id} hd => by
    unfold dom at *
    rw [look_cons]
    split
    · exact Option.some_ne_none _
    · exact hd
  have m2 : Mem C ((i, .var T (cs.set k (.ow rid 0))) :: (rid, .row E sz []) :: β) (updF ρ rid (.slice none 0 0)) I w :=
    { os := m1.os, tape := m1.tape, output := m1.output, size := m1.size, frame := m1.frame, imm := m1.imm, new := m1.new, gl := m1.gl
      box := fun id b hb => by
        rw [look_cons] at hb
        split at hb
        · rename_i e
          injection hb with hb
          subst hb
          subst e
          obtain ⟨g, us, q1, q2, q3⟩ := m1.box i _ hi1
          obtain ⟨u, y1, y2, _⟩ := repAs_get q3 hk
          have y2 : u = .slice none 0 0 := y2
          subst y2
          exact ⟨g, us, q1, q2, repAs_setA rfl q3 y1 ⟨(upd_same _ _ _).symm, none, 0, rfl, Nat.le_refl _, fun h => absurd h (by simp)⟩⟩
        · exact m1.box id b hb
      own := fun id b g hb hl hg => by
        obtain ⟨b', q1, q2⟩ := hst hb
        exact m1.own id b' g q1 (q2.trans hl) hg
      inj := fun a c b b' g ha hc hl hl' hg hg' => by
        obtain ⟨b1, q1, q2⟩ := hst ha
        obtain ⟨b2, q3, q4⟩ := hst hc
        exact m1.inj a c b1 b2 g q1 q3 (q2.trans hl) (q4.trans hl') hg hg'
      clo := fun id b hb => by
        rw [look_cons] at hb
        split at hb
        · rename_i e
          injection hb with hb
          subst hb
          subst e
          have hc := m1.clo i _ hi1
          refine insB_setA ?_ (A.insB_mono (fun j hj => hdm hj) cs hc)
          show dom _ rid
          unfold dom
          rw [look_cons, if_neg hir, look_cons, if_pos rfl]
          exact Option.some_ne_none _
        · exact Box.inB_mono (fun j hj => hdm hj) b (m1.clo id b hb) }
  refine ⟨_, I, m2, hfr.defers, hfr.size, hfr.keep, fun t v ht => ?_⟩
  obtain ⟨k1, k2, k3⟩ := hfr.val t v ht
  exact ⟨k1, A.inB_mono (fun j hj => hdm (dom_append (γ := [(rid, Box.row E sz [])]) hj)) v k2, RepA.ext x1 v _ k2 k3⟩
end
end Go.Proofs.YtclhmdobhlalmaaDoor
