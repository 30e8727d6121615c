/-
  The pure layer: forests joined and cut. No condition.
-/
import Derived.Test.YtobgjkkadnihjaaZTrRes
namespace Go.Proofs.Ytobgjkkadnihjaa
set_option linter.unusedSimpArgs false
set_option linter.unusedVariables false
open Go.RowKit

section
variable {Q : TrTy} {σ : Sl} {β : Bx} {C : Ctx} {a : Act} {w : World} {ρ : Nat → Value} {I : Nat → Prop}
/-- A tree joins a forest: its address is data then. -/
theorem ent_join (s i4 X : Nat) {t : Tn} {l1 l2 : List Tn} {p1 p2 : List Value} (hs : look s σ = some (.px X 0)) (hX : look X β = some (.res (treeR Q t))) (h4 : look i4 β = some (.res (forestR Q (l1 ++ l2) (p1 ++ p2)))) (hp : p1.length = l1.length) (hat : At C ⟨σ, β⟩ a w) :
    ∃ p : {p : Value // ∃ g : Nat, p = .pointer (some ⟨g, 0, none⟩)}, At C ⟨(s, .d (.sc p.1)) :: σ, [(i4, .res (forestR Q (l1 ++ t :: l2) (p1 ++ p.1 :: p2))), (X, .dead)] ++ β⟩ a w := by
  obtain ⟨ρ, I, hm, hfr⟩ := hat
  obtain ⟨fs, hf⟩ := hm.box i4 _ h4
  obtain ⟨ft, ht⟩ := hm.box X _ hX
  have ht : TreeRep Q w t (ρ X) ft := ht
  obtain ⟨g0, hg0⟩ := tree_ptr ht
  obtain ⟨fa, fb, k1, k2, k3⟩ := forest_app hp hf
  have hne : X ≠ i4 := fun e => by
    rw [e, h4] at hX
    injection hX with hX
    injection hX with hX
    have h2 : (treeR Q t).rep w undef fs := by rw [← hX]; exact hf
    obtain ⟨g, hg⟩ := tree_ptr (h2 : TreeRep Q w t undef fs)
    cases hg
  have hhas : ∀ g ∈ fs, (Box.res (forestR Q (l1 ++ l2) (p1 ++ p2))).has w (ρ i4) g := fun g hg => ⟨fs, hf, hg⟩
  have hhas2 : ∀ g ∈ ft, (Box.res (treeR Q t)).has w (ρ X) g := fun g hg => ⟨ft, ht, hg⟩
  have hd : ∀ g ∈ ft, g ∉ fs := fun g hg hg' => hne (hm.inj X i4 _ _ g hX h4 (hhas2 g hg) (hhas g hg'))
  have knd := forest_nodup hf
  rw [k3] at knd
  have knew := app_forest k1 (app_forest (forest_one ht) k2 fun g hg hb => hd g hg (by rw [k3]; simp [hb])) fun g hg hb => by
    rcases List.mem_append.1 hb with hb | hb
    · exact hd g hb (by rw [k3]; simp [hg])
    · exact (List.nodup_append.1 knd).2.2 g hg g hb rfl
  refine ⟨⟨ρ X, g0, hg0⟩, ?_⟩
  have cls : ∀ i b k, look i [(i4, Box.res (forestR Q (l1 ++ t :: l2) (p1 ++ ρ X :: p2))), (X, .dead)] = some b → b.has w (ρ i) k → i = i4 ∧ k ∈ fa ++ (ft ++ fb) := fun i b k hi hh => by
    rcases look_of2 hi with ⟨rfl, rfl⟩ | ⟨rfl, rfl⟩
    · obtain ⟨f', hf', hk⟩ := hh
      rw [ForestRep.det _ hf' knew] at hk
      exact ⟨rfl, hk⟩
    · exact hh.elim
  refine at_regroup hm hfr _ ρ [(s, .d (.sc (ρ X)))] (fun _ _ => rfl) (fun i b hi => ?_) (fun i b k hi hh => ?_) (fun i i' b b' k hi hi' hh hh' => ?_) (fun t' v ht' => ?_)
  · rcases look_of2 hi with ⟨rfl, rfl⟩ | ⟨rfl, rfl⟩
    · exact ⟨⟨_, knew⟩, trivial⟩
    · exact ⟨trivial, trivial⟩
  · obtain ⟨_, h⟩ := cls i b k hi hh
    rcases List.mem_append.1 h with h | h
    · exact ⟨i4, _, h4, look_a, hhas k (by rw [k3]; simp [h])⟩
    · rcases List.mem_append.1 h with h | h
      · exact ⟨X, _, hX, look_b, hhas2 k h⟩
      · exact ⟨i4, _, h4, look_a, hhas k (by rw [k3]; simp [h])⟩
  · exact (cls i b k hi hh).1.trans (cls i' b' k hi' hh').1.symm
  · rw [look_cons] at ht'
    split at ht'
    · rename_i e
      subst e
      injection ht' with ht'
      subst ht'
      obtain ⟨g, q1, q2⟩ := (hfr.val s _ hs).2.2
      refine ⟨by rw [hs]; simp, trivial, ?_, ?_⟩
      · exact q2.trans q1.symm
      · rw [hg0]; rfl
    · cases ht'
/-- A forest is cut in two. -/
theorem mem_split (i4 j : Nat) {l1 l2 : List Tn} {p1 p2 : List Value} (h4 : look i4 β = some (.res (forestR Q (l1 ++ l2) (p1 ++ p2)))) (hp : p1.length = l1.length) (hj : look j β = none) (hm : Mem C β ρ I w) :
    Mem C ([(i4, .res (forestR Q l1 p1)), (j, .res (forestR Q l2 p2))] ++ β) ρ I w := by
  obtain ⟨fs, hf⟩ := hm.box i4 _ h4
  obtain ⟨fa, fb, k1, k2, k3⟩ := forest_app hp hf
  have hhas : ∀ g ∈ fs, (Box.res (forestR Q (l1 ++ l2) (p1 ++ p2))).has w (ρ i4) g := fun g hg => ⟨fs, hf, hg⟩
  have knd := forest_nodup hf
  rw [k3] at knd
  have cls : ∀ i b k, look i [(i4, Box.res (forestR Q l1 p1)), (j, .res (forestR Q l2 p2))] = some b → b.has w (ρ i) k → (i = i4 ∧ k ∈ fa) ∨ (i = j ∧ k ∈ fb) := fun i b k hi hh => by
    rcases look_of2 hi with ⟨rfl, rfl⟩ | ⟨rfl, rfl⟩
    · obtain ⟨f', hf', hk⟩ := hh
      rw [ForestRep.det _ hf' k1] at hk
      exact .inl ⟨rfl, hk⟩
    · obtain ⟨f', hf', hk⟩ := hh
      rw [ForestRep.det _ hf' k2] at hk
      exact .inr ⟨rfl, hk⟩
  refine (mem_regroup hm _ ρ (fun _ _ => rfl) (fun i b hi => ?_) (fun i b k hi hh => ⟨i4, _, h4, look_a, hhas k ?_⟩) (fun i i' b b' k hi hi' hh hh' => ?_)).1
  · rcases look_of2 hi with ⟨rfl, rfl⟩ | ⟨rfl, rfl⟩
    · exact ⟨⟨_, k1⟩, trivial⟩
    · exact ⟨⟨_, k2⟩, trivial⟩
  · rw [k3]
    rcases cls i b k hi hh with ⟨_, h⟩ | ⟨_, h⟩ <;> simp [h]
  · rcases cls i b k hi hh with ⟨rfl, h⟩ | ⟨rfl, h⟩ <;> rcases cls i' b' k hi' hh' with ⟨rfl, h'⟩ | ⟨rfl, h'⟩
    · rfl
    · exact absurd rfl ((List.nodup_append.1 knd).2.2 k h k h')
    · exact absurd rfl ((List.nodup_append.1 knd).2.2 k h' k h)
    · rfl
theorem ent_split (i4 j : Nat) {l1 l2 : List Tn} {p1 p2 : List Value} (h4 : look i4 β = some (.res (forestR Q (l1 ++ l2) (p1 ++ p2)))) (hp : p1.length = l1.length) (hj : look j β = none) (hat : At C ⟨σ, β⟩ a w) :
    At C ⟨σ, [(i4, .res (forestR Q l1 p1)), (j, .res (forestR Q l2 p2))] ++ β⟩ a w := at_mem (fun _ _ hm => mem_split i4 j h4 hp hj hm) hat
/-- Two forests, one behind the other. -/
theorem mem_fjoin (i4 j : Nat) {l1 l2 : List Tn} {p1 p2 : List Value} (h4 : look i4 β = some (.res (forestR Q l1 p1))) (hj : look j β = some (.res (forestR Q l2 p2))) (hne : i4 ≠ j) (hm : Mem C β ρ I w) :
    Mem C ([(i4, .res (forestR Q (l1 ++ l2) (p1 ++ p2))), (j, .dead)] ++ β) ρ I w := by
  obtain ⟨fa, ka⟩ := hm.box i4 _ h4
  obtain ⟨fb, kb⟩ := hm.box j _ hj
  have ka : ForestRep Q w l1 p1 fa := ka
  have kb : ForestRep Q w l2 p2 fb := kb
  have hx1 : ∀ g ∈ fa, (Box.res (forestR Q l1 p1)).has w (ρ i4) g := fun g hg => ⟨fa, ka, hg⟩
  have hx2 : ∀ g ∈ fb, (Box.res (forestR Q l2 p2)).has w (ρ j) g := fun g hg => ⟨fb, kb, hg⟩
  have knew := app_forest ka kb fun g hg hb => hne (hm.inj i4 j _ _ g h4 hj (hx1 g hg) (hx2 g hb))
  have cls : ∀ i b k, look i [(i4, Box.res (forestR Q (l1 ++ l2) (p1 ++ p2))), (j, .dead)] = some b → b.has w (ρ i) k → i = i4 ∧ k ∈ fa ++ fb := fun i b k hi hh => by
    rcases look_of2 hi with ⟨rfl, rfl⟩ | ⟨rfl, rfl⟩
    · obtain ⟨f', hf', hk⟩ := hh
      rw [ForestRep.det _ hf' knew] at hk
      exact ⟨rfl, hk⟩
    · exact hh.elim
  refine (mem_regroup hm _ ρ (fun _ _ => rfl) (fun i b hi => ?_) (fun i b k hi hh => ?_) (fun i i' b b' k hi hi' hh hh' => (cls i b k hi hh).1.trans (cls i' b' k hi' hh').1.symm)).1
  · rcases look_of2 hi with ⟨rfl, rfl⟩ | ⟨rfl, rfl⟩
    · exact ⟨⟨_, knew⟩, trivial⟩
    · exact ⟨trivial, trivial⟩
  · rcases List.mem_append.1 (cls i b k hi hh).2 with h | h
    · exact ⟨i4, _, h4, look_a, hx1 k h⟩
    · exact ⟨j, _, hj, look_b, hx2 k h⟩
/-- A tree's box as a forest of one. -/
theorem mem_fone (X : Nat) {t : Tn} (hX : look X β = some (.res (treeR Q t))) (hm : Mem C β ρ I w) : Mem C ([(X, .res (forestR Q [t] [ρ X]))] ++ β) ρ I w := by
  obtain ⟨ft, ht⟩ := hm.box X _ hX
  have ht : TreeRep Q w t (ρ X) ft := ht
  have hx2 : ∀ g ∈ ft, (Box.res (treeR Q t)).has w (ρ X) g := fun g hg => ⟨ft, ht, hg⟩
  have knew := forest_one ht
  have cls : ∀ i b k, look i [(X, Box.res (forestR Q [t] [ρ X]))] = some b → b.has w (ρ i) k → i = X ∧ k ∈ ft := fun i b k hi hh => by
    obtain ⟨rfl, rfl⟩ := look_one hi
    obtain ⟨f', hf', hk⟩ := hh
    rw [ForestRep.det _ hf' knew] at hk
    exact ⟨rfl, hk⟩
  refine (mem_regroup hm _ ρ (fun _ _ => rfl) (fun i b hi => ?_) (fun i b k hi hh => ⟨X, _, hX, look_a, hx2 k (cls i b k hi hh).2⟩) (fun i i' b b' k hi hi' hh hh' => (cls i b k hi hh).1.trans (cls i' b' k hi' hh').1.symm)).1
  obtain ⟨rfl, rfl⟩ := look_one hi
  exact ⟨⟨_, knew⟩, trivial⟩
end
end Go.Proofs.Ytobgjkkadnihjaa

