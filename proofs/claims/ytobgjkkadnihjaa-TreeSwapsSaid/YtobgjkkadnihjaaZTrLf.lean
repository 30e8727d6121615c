/-
  The pure layer: a variable that holds a pointer to a tree, or nil, as one box. No condition.
-/
import Derived.Test.YtobgjkkadnihjaaZTrOp
namespace Go.Proofs.Ytobgjkkadnihjaa
set_option linter.unusedSimpArgs false
set_option linter.unusedVariables false
open Go.RowKit

def OptRep (Q : TrTy) (w : World) : Option Tn → Value → List Nat → Prop
  | none, x, fs => x = .pointer none ∧ fs = []
  | some t, x, fs => TreeRep Q w t x fs
theorem OptRep.stay {Q : TrTy} {w w' : World} : ∀ (o : Option Tn) {x : Value} {fs : List Nat}, OptRep Q w o x fs → (∀ g ∈ fs, w'.heap[g]? = w.heap[g]?) → OptRep Q w' o x fs
  | none, _, _, h, _ => h
  | some t, _, _, h, hs => TreeRep.stay t h hs
theorem OptRep.det {Q : TrTy} {w : World} : ∀ (o : Option Tn) {x : Value} {fs fs' : List Nat}, OptRep Q w o x fs → OptRep Q w o x fs' → fs = fs'
  | none, _, _, _, h, h' => h.2.trans h'.2.symm
  | some t, _, _, _, h, h' => TreeRep.det t h h'
theorem OptRep.one {Q : TrTy} {w : World} : ∀ (o : Option Tn) {x : Value} {fs : List Nat}, OptRep Q w o x fs → ∃ a, x = .pointer a
  | none, _, _, h => ⟨_, h.1⟩
  | some t, _, _, h => by obtain ⟨g, h⟩ := tree_ptr h; exact ⟨_, h⟩
def LeftRep (Q : TrTy) (T : TypeId) (w : World) (o : Option Tn) (v : Value) (fs : List Nat) : Prop := ∃ g x f0, v = .pointer (some ⟨g, 0, none⟩) ∧ w.heap[g]? = some (.cells #[x] T (0, 0)) ∧ OptRep Q w o x f0 ∧ fs = g :: f0 ∧ fs.Nodup
def leftR (Q : TrTy) (T : TypeId) (o : Option Tn) : Res := ⟨fun w v fs => LeftRep Q T w o v fs, fun {w w' v fs} h hs => by
    obtain ⟨g, x, f0, h1, h2, h3, h4, h5⟩ := h
    exact ⟨g, x, f0, h1, (hs g (by rw [h4]; simp)).trans h2, OptRep.stay o h3 (fun k hk => hs k (by rw [h4]; simp [hk])), h4, h5⟩, fun {w v fs fs'} h h' => by
    obtain ⟨g, x, f0, h1, h2, h3, h4, h5⟩ := h
    obtain ⟨g', x', f0', k1, k2, k3, k4, k5⟩ := h'
    subst h1
    injection k1 with k1
    injection k1 with k1
    injection k1 with k1
    subst k1
    rw [h2] at k2
    injection k2 with k2
    injection k2 with k2
    have k2 := congrArg Array.toList k2
    injection k2 with e1 _
    subst e1
    rw [h4, k4, OptRep.det o h3 k3]⟩
section
variable {Q : TrTy} {T : TypeId} {σ : Sl} {β : Bx} {C : Ctx} {a : Act} {w : World} {ρ : Nat → Value} {I : Nat → Prop}
/-- The variable holds nil. -/
theorem ent_lnil (id : Nat) (hl : look id β = some (.res (leftR Q T none))) (hat : At C ⟨σ, β⟩ a w) : At C ⟨σ, [(id, .var T [.d (.sc (.pointer none))])] ++ β⟩ a w := by
  refine at_mem (fun ρ I hm => ?_) hat
  obtain ⟨fs, g, x, f0, h1, h2, ⟨rfl, rfl⟩, h4, h5⟩ := hm.box id _ hl
  refine (mem_regroup hm _ ρ (fun _ _ => rfl) (fun i b hi => ?_) (fun i b k hi hh => ?_) (fun i j b b' k hi hj hh hh' => ?_)).1
  · obtain ⟨rfl, rfl⟩ := look_one hi
    exact ⟨⟨g, #[.pointer none], h1, h2, ⟨_, [], rfl, fun _ => rfl, ⟨rfl, rfl⟩, rfl⟩⟩, trivial, trivial⟩
  · obtain ⟨rfl, rfl⟩ := look_one hi
    refine ⟨i, _, hl, look_a, fs, ⟨g, _, [], h1, h2, ⟨rfl, rfl⟩, h4, h5⟩, ?_⟩
    have hh : blk _ = some k := hh
    rw [h1] at hh
    injection hh with hh
    rw [h4]
    exact List.mem_cons.2 (.inl hh.symm)
  · obtain ⟨rfl, rfl⟩ := look_one hi
    obtain ⟨rfl, rfl⟩ := look_one hj
    rfl
theorem ent_lnshut (id : Nat) (hl : look id β = some (.var T [.d (.sc (.pointer none))])) (hat : At C ⟨σ, β⟩ a w) : At C ⟨σ, [(id, .res (leftR Q T none))] ++ β⟩ a w := by
  refine at_mem (fun ρ I hm => ?_) hat
  obtain ⟨g, us, h1, h2, ⟨x, u1, q1, _, ⟨r1, _⟩, q2⟩⟩ := hm.box id _ hl
  have hus : us = #[.pointer none] := by
    apply Array.toList_inj.1
    rw [q1, q2, r1]
  have hx0 : (Box.var T [A.d (.sc (.pointer none))]).has w (ρ id) g := by show blk (ρ id) = some g; rw [h1]; rfl
  have hrep : LeftRep Q T w none (ρ id) [g] := ⟨g, _, [], h1, by rw [h2, hus], ⟨rfl, rfl⟩, rfl, by simp⟩
  refine (mem_regroup hm _ ρ (fun _ _ => rfl) (fun i b hi => ?_) (fun i b k hi hh => ?_) (fun i j b b' k hi hj hh hh' => ?_)).1
  · obtain ⟨rfl, rfl⟩ := look_one hi
    exact ⟨⟨_, hrep⟩, trivial⟩
  · obtain ⟨rfl, rfl⟩ := look_one hi
    obtain ⟨f', hf', hk⟩ := hh
    rw [(leftR Q T none).det hf' hrep] at hk
    exact ⟨i, _, hl, look_a, by rw [List.mem_singleton.1 hk]; exact hx0⟩
  · obtain ⟨rfl, rfl⟩ := look_one hi
    obtain ⟨rfl, rfl⟩ := look_one hj
    rfl
/-- The variable holds a tree. -/
theorem ent_lopen (id j : Nat) {t : Tn} (hl : look id β = some (.res (leftR Q T (some t)))) (hj : look j β = none) (hat : At C ⟨σ, β⟩ a w) : At C ⟨σ, [(id, .var T [.px j 0]), (j, .res (treeR Q t))] ++ β⟩ a w := by
  obtain ⟨ρ, I, hm, hfr⟩ := hat
  obtain ⟨fs, g, x, f0, h1, h2, h3, h4, h5⟩ := hm.box id _ hl
  have h3 : TreeRep Q w t x f0 := h3
  have hrep : LeftRep Q T w (some t) (ρ id) fs := ⟨g, x, f0, h1, h2, h3, h4, h5⟩
  have hne : id ≠ j := fun e => by rw [e, hj] at hl; cases hl
  obtain ⟨g0, hg0⟩ := tree_ptr h3
  have hdj := upd_dom hj ρ x
  have hid : updF ρ j x id = ρ id := hdj id (by unfold dom; rw [hl]; simp)
  have hhas : ∀ k ∈ fs, (Box.res (leftR Q T (some t))).has w (ρ id) k := fun k hk => ⟨fs, hrep, hk⟩
  have cls : ∀ (z : Nat) (B : Box) (k : Nat), look z [(id, Box.var T [.px j 0]), (j, .res (treeR Q t))] = some B → B.has w (updF ρ j x z) k → (z = id ∧ k = g) ∨ (z = j ∧ k ∈ f0) := by
    intro z B k hz hB
    rcases look_of2 hz with ⟨rfl, rfl⟩ | ⟨rfl, rfl⟩
    · have hB : blk _ = some k := hB
      rw [hid, h1] at hB
      injection hB with hB
      exact .inl ⟨rfl, hB.symm⟩
    · obtain ⟨f', hf', hk'⟩ := hB
      have hf' : TreeRep Q w t _ f' := hf'
      rw [upd_same] at hf'
      rw [TreeRep.det t hf' h3] at hk'
      exact .inr ⟨rfl, hk'⟩
  refine at_regroup hm hfr _ (updF ρ j x) [] hdj (fun i b hi => ?_) (fun i b k hi hh => ⟨id, _, hl, look_a, hhas k ?_⟩) (fun i j b b' k hi hj hh hh' => ?_) (fun t v ht => by cases ht)
  · rcases look_of2 hi with ⟨rfl, rfl⟩ | ⟨rfl, rfl⟩
    · exact ⟨⟨g, #[x], hid.trans h1, h2, ⟨x, [], rfl, fun _ => rfl, ⟨g0, (upd_same _ _ _).trans hg0, hg0⟩, rfl⟩⟩, dom_left look_b, trivial⟩
    · exact ⟨⟨f0, by rw [upd_same]; exact h3⟩, trivial⟩
  · rw [h4]
    rcases cls i b k hi hh with ⟨_, h⟩ | ⟨_, h⟩ <;> simp [h]
  · rw [h4] at h5
    have hn := (List.nodup_cons.1 h5).1
    rcases cls i b k hi hh with ⟨rfl, h⟩ | ⟨rfl, h⟩ <;> rcases cls j b' k hj hh' with ⟨rfl, h'⟩ | ⟨rfl, h'⟩
    · rfl
    · rw [h] at h'; exact absurd h' hn
    · rw [h'] at h; exact absurd h hn
    · rfl
theorem ent_lshut (id j : Nat) {t : Tn} (hl : look id β = some (.var T [.px j 0])) (hj : look j β = some (.res (treeR Q t))) (hat : At C ⟨σ, β⟩ a w) : At C ⟨σ, [(id, .res (leftR Q T (some t))), (j, .dead)] ++ β⟩ a w := by
  refine at_mem (fun ρ I hm => ?_) hat
  obtain ⟨g, us, h1, h2, ⟨x, u1, q1, _, r1, q2⟩⟩ := hm.box id _ hl
  obtain ⟨g1, r1, r2⟩ := r1
  have hxj : x = ρ j := r2.trans r1.symm
  obtain ⟨ft, ht⟩ := hm.box j _ hj
  have ht : TreeRep Q w t (ρ j) ft := ht
  have hne : id ≠ j := fun e => by rw [e, hj] at hl; cases hl
  have hus : us = #[x] := by
    apply Array.toList_inj.1
    rw [q1, q2]
  have hx0 : (Box.var T [A.px j 0]).has w (ρ id) g := by show blk (ρ id) = some g; rw [h1]; rfl
  have hx2 : ∀ k ∈ ft, (Box.res (treeR Q t)).has w (ρ j) k := fun k hk => ⟨ft, ht, hk⟩
  have hgn : g ∉ ft := fun h => hne (hm.inj id j _ _ g hl hj hx0 (hx2 g h))
  have hrep : LeftRep Q T w (some t) (ρ id) (g :: ft) := ⟨g, x, ft, h1, by rw [h2, hus], by rw [hxj]; exact ht, rfl, List.nodup_cons.2 ⟨hgn, tree_nodup ht⟩⟩
  have cls : ∀ (z : Nat) (B : Box) (k : Nat), look z [(id, Box.res (leftR Q T (some t))), (j, .dead)] = some B → B.has w (ρ z) k → z = id ∧ k ∈ g :: ft := by
    intro z B k hz hB
    rcases look_of2 hz with ⟨rfl, rfl⟩ | ⟨rfl, rfl⟩
    · obtain ⟨f', hf', hk'⟩ := hB
      rw [(leftR Q T (some t)).det hf' hrep] at hk'
      exact ⟨rfl, hk'⟩
    · exact hB.elim
  refine (mem_regroup hm _ ρ (fun _ _ => rfl) (fun i b hi => ?_) (fun i b k hi hh => ?_) (fun i j b b' k hi hj hh hh' => (cls i b k hi hh).1.trans (cls j b' k hj hh').1.symm)).1
  · rcases look_of2 hi with ⟨rfl, rfl⟩ | ⟨rfl, rfl⟩
    · exact ⟨⟨_, hrep⟩, trivial⟩
    · exact ⟨trivial, trivial⟩
  · rcases List.mem_cons.1 (cls i b k hi hh).2 with rfl | h
    · exact ⟨id, _, hl, look_a, hx0⟩
    · exact ⟨j, _, hj, look_b, hx2 k h⟩
end
end Go.Proofs.Ytobgjkkadnihjaa

