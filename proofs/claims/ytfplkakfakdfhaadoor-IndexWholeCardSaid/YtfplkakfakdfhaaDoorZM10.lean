/-
  The pure layer: a tree's box opened: its node, keys, values, kids; and shut again. No condition.
-/
import Derived.Test.YtfplkakfakdfhaaDoorZM9
namespace Go.Proofs.YtfplkakfakdfhaaDoor
set_option linter.unusedSimpArgs false
set_option linter.unusedVariables false
open Go.RowKit

abbrev strE (k : ByteArray) : List D := [strD k]
abbrev intE (k : Int) : List D := [iD k]
abbrev ptrE (p : Value) : List D := [D.sc p]
theorem look_of4 {i a b c d : Nat} {A B C D : Box} {x : Box} (h : look i [(a, A), (b, B), (c, C), (d, D)] = some x) : (i = a ∧ x = A) ∨ (i = b ∧ x = B) ∨ (i = c ∧ x = C) ∨ (i = d ∧ x = D) := by
  rw [look_cons] at h
  split at h
  · rename_i e1; injection h with h; exact .inl ⟨e1.symm, h.symm⟩
  · exact .inr (look_of3 h)
theorem look_d {i j k l : Nat} {A B D E : Box} {r : Bx} : look l ((i, A) :: (j, B) :: (k, D) :: (l, E) :: r) ≠ none := by
  rw [look_cons]
  split
  · simp
  · exact look_c
def upd3 (ρ : Nat → Value) (i1 i2 i3 : Nat) (a b c : Value) (i : Nat) : Value := if i = i1 then a else if i = i2 then b else if i = i3 then c else ρ i
theorem strs_repC {I : Nat → Prop} {w : World} : ∀ {l : List ByteArray} {xs : List Value}, RepR I w 1 (l.map strE) xs → xs = l.map .string
  | [], _, h => h
  | k :: l, _, ⟨us, us', h1, h2, ⟨u, us2, e1, _, h4, e2⟩, h5⟩ => by
    subst h1 e1
    rw [e2, h4.1, strs_repC h5]
    rfl
theorem ints_repC {I : Nat → Prop} {w : World} : ∀ {l : List Int} {xs : List Value}, RepR I w 1 (l.map intE) xs → xs = l.map (.int .i64)
  | [], _, h => h
  | k :: l, _, ⟨us, us', h1, h2, ⟨u, us2, e1, _, h4, e2⟩, h5⟩ => by
    subst h1 e1
    rw [e2, h4.1, ints_repC h5]
    rfl
theorem ptrs_repC {I : Nat → Prop} {w : World} : ∀ {l : List Value} {xs : List Value}, RepR I w 1 (l.map ptrE) xs → xs = l
  | [], _, h => h
  | k :: l, _, ⟨us, us', h1, h2, ⟨u, us2, e1, _, h4, e2⟩, h5⟩ => by
    subst h1 e1
    rw [e2, h4.1, ptrs_repC h5]
    rfl
section
variable {Q : TrTy} {σ : Sl} {β : Bx} {C : Ctx} {a : Act} {w : World} {ρ : Nat → Value} {I : Nat → Prop}
set_option maxHeartbeats 1000000 in
/-- A tree's box, opened. -/
theorem ent_open (id i1 i2 i3 : Nat) {ks : List ByteArray} {vs : List Int} {ts : List Tn} (hl : look id β = some (.res (treeR Q (.node ks vs ts)))) (h1 : look i1 β = none) (h2 : look i2 β = none) (h3 : look i3 β = none)
    (h12 : i1 ≠ i2) (h13 : i1 ≠ i3) (h23 : i2 ≠ i3) (hat : At C ⟨σ, β⟩ a w) :
    At C ⟨σ, [(id, .var Q.T [.ow i1 ks.length, .ow i2 vs.length, .ow i3 ts.length]), (i1, .row Q.K 1 (ks.map strE)), (i2, .row Q.V 1 (vs.map intE)), (i3, .res (kidsR Q ts))] ++ β⟩ a w := by
  obtain ⟨ρ, I, hm, hfr⟩ := hat
  obtain ⟨fs, g, ka, va, ca, ps, f0, e1, e2, e3, e4, e5, e6, e7, e8⟩ := hm.box id _ hl
  have hne : ∀ i, look i β = none → id ≠ i := fun i hi e => by rw [← e, hl] at hi; cases hi
  have n1 := hne i1 h1
  have n2 := hne i2 h2
  have n3 := hne i3 h3
  have hfs : (treeR Q (.node ks vs ts)).rep w (ρ id) fs := ⟨g, ka, va, ca, ps, f0, e1, e2, e3, e4, e5, e6, e7, e8⟩
  have hhas : ∀ k ∈ fs, (Box.res (treeR Q (.node ks vs ts))).has w (ρ id) k := fun k hk => ⟨fs, hfs, hk⟩
  have r0 : upd3 ρ i1 i2 i3 ka va ca id = ρ id := by unfold upd3; rw [if_neg n1, if_neg n2, if_neg n3]
  have r1 : upd3 ρ i1 i2 i3 ka va ca i1 = ka := by unfold upd3; rw [if_pos rfl]
  have r2 : upd3 ρ i1 i2 i3 ka va ca i2 = va := by unfold upd3; rw [if_neg h12.symm, if_pos rfl]
  have r3 : upd3 ρ i1 i2 i3 ka va ca i3 = ca := by unfold upd3; rw [if_neg h13.symm, if_neg h23.symm, if_pos rfl]
  have hpl := forest_len e6
  have hg0 : blk (ρ id) = some g := by rw [e1]; rfl
  obtain ⟨a1, c1, k1, k2, k3⟩ := own_form e3
  obtain ⟨a2, c2, k4, k5, k6⟩ := own_form e4
  obtain ⟨a3, c3, k7, k8, k9⟩ := own_form e5
  rw [e7] at e8
  have hkn : (blkL ca ++ f0).Nodup := ((List.nodup_append.1 (List.nodup_append.1 (List.nodup_cons.1 e8).2).2.1).2.1)
  have hkids : KidsRep Q w ts (upd3 ρ i1 i2 i3 ka va ca i3) (blkL ca ++ f0) := ⟨ps, f0, by rw [r3]; exact e5, e6, by rw [r3], hkn⟩
  have cls : ∀ (x : Nat) (B : Box) (k : Nat), look x [(id, Box.var Q.T [.ow i1 ks.length, .ow i2 vs.length, .ow i3 ts.length]), (i1, .row Q.K 1 (ks.map strE)), (i2, .row Q.V 1 (vs.map intE)), (i3, .res (kidsR Q ts))] = some B → B.has w (upd3 ρ i1 i2 i3 ka va ca x) k →
      (x = id ∧ k = g) ∨ (x = i1 ∧ k ∈ blkL ka) ∨ (x = i2 ∧ k ∈ blkL va) ∨ (x = i3 ∧ k ∈ blkL ca ++ f0) := by
    intro x B k hx2 hB
    rcases look_of4 hx2 with ⟨rfl, rfl⟩ | ⟨rfl, rfl⟩ | ⟨rfl, rfl⟩ | ⟨rfl, rfl⟩
    · have hB : blk _ = some k := hB
      rw [r0, hg0] at hB
      injection hB with hB
      exact .inl ⟨rfl, hB.symm⟩
    · have hB : blk _ = some k := hB
      rw [r1] at hB
      exact .inr (.inl ⟨rfl, blkL_mem hB⟩)
    · have hB : blk _ = some k := hB
      rw [r2] at hB
      exact .inr (.inr (.inl ⟨rfl, blkL_mem hB⟩))
    · obtain ⟨f', hf', hk⟩ := hB
      rw [(kidsR Q ts).det hf' hkids] at hk
      exact .inr (.inr (.inr ⟨rfl, hk⟩))
  refine at_regroup hm hfr _ (upd3 ρ i1 i2 i3 ka va ca) [] (fun i hd => ?_) (fun i b hi => ?_) (fun i b k hi hh => ⟨id, _, hl, look_a, hhas k ?_⟩) (fun i j b b' k hi hj hh hh' => ?_) (fun t v ht => by cases ht)
  · unfold upd3
    rw [if_neg (fun e => hd (by rw [e]; exact h1)), if_neg (fun e => hd (by rw [e]; exact h2)), if_neg (fun e => hd (by rw [e]; exact h3))]
  · rcases look_of4 hi with ⟨rfl, rfl⟩ | ⟨rfl, rfl⟩ | ⟨rfl, rfl⟩ | ⟨rfl, rfl⟩
    · exact ⟨⟨g, #[ka, va, ca], r0.trans e1, e2, ⟨ka, [va, ca], rfl, fun _ => rfl, ⟨r1.symm, a1, c1, k1, k2, k3⟩, va, [ca], rfl, fun _ => rfl, ⟨r2.symm, a2, c2, k4, k5, k6⟩, ca, [], rfl, fun _ => rfl, ⟨r3.symm, a3, c3, k7, k8, k9⟩, rfl⟩⟩,
        ⟨dom_left look_b, dom_left look_c, dom_left look_d, trivial⟩⟩
    · exact ⟨⟨ks.map .string, by rw [r1, List.length_map]; exact e3, repC_strs I w ks⟩, trivial⟩
    · exact ⟨⟨vs.map (.int .i64), by rw [r2, List.length_map]; exact e4, repC_ints I w vs⟩, trivial⟩
    · exact ⟨⟨_, hkids⟩, trivial⟩
  · rw [e7]
    rcases cls i b k hi hh with ⟨_, h⟩ | ⟨_, h⟩ | ⟨_, h⟩ | ⟨_, h⟩
    · simp [h]
    · simp [h]
    · simp [h]
    · rcases List.mem_append.1 h with h | h <;> simp [h]
  · obtain ⟨d1, e8⟩ := List.nodup_cons.1 e8
    obtain ⟨_, e8, d2⟩ := List.nodup_append.1 e8
    obtain ⟨_, _, d3⟩ := List.nodup_append.1 e8
    have m2 : ∀ x ∈ blkL ca ++ f0, x ∈ blkL va ++ (blkL ca ++ f0) := fun x hx => List.mem_append_right _ hx
    rcases cls i b k hi hh with ⟨rfl, y⟩ | ⟨rfl, y⟩ | ⟨rfl, y⟩ | ⟨rfl, y⟩ <;> rcases cls j b' k hj hh' with ⟨rfl, y'⟩ | ⟨rfl, y'⟩ | ⟨rfl, y'⟩ | ⟨rfl, y'⟩
    all_goals first
      | rfl
      | (exfalso; rw [y] at y'; exact d1 (List.mem_append_left _ y'))
      | (exfalso; rw [y'] at y; exact d1 (List.mem_append_left _ y))
      | (exfalso; rw [y] at y'; exact d1 (List.mem_append_right _ (List.mem_append_left _ y')))
      | (exfalso; rw [y'] at y; exact d1 (List.mem_append_right _ (List.mem_append_left _ y)))
      | (exfalso; rw [y] at y'; exact d1 (List.mem_append_right _ (m2 _ y')))
      | (exfalso; rw [y'] at y; exact d1 (List.mem_append_right _ (m2 _ y)))
      | exact absurd rfl (d2 k y k (List.mem_append_left _ y'))
      | exact absurd rfl (d2 k y' k (List.mem_append_left _ y))
      | exact absurd rfl (d2 k y k (m2 _ y'))
      | exact absurd rfl (d2 k y' k (m2 _ y))
      | exact absurd rfl (d3 k y k y')
      | exact absurd rfl (d3 k y' k y)
set_option maxHeartbeats 1000000 in
/-- And shut. -/
theorem ent_shut (id i1 i2 i3 : Nat) {ks : List ByteArray} {vs : List Int} {ts : List Tn} {n1 n2 n3 : Nat} (hl : look id β = some (.var Q.T [.ow i1 n1, .ow i2 n2, .ow i3 n3])) (h1 : look i1 β = some (.row Q.K 1 (ks.map strE))) (h2 : look i2 β = some (.row Q.V 1 (vs.map intE))) (h3 : look i3 β = some (.res (kidsR Q ts)))
    (h12 : i1 ≠ i2) (hat : At C ⟨σ, β⟩ a w) :
    At C ⟨σ, [(id, .res (treeR Q (.node ks vs ts))), (i1, .dead), (i2, .dead), (i3, .dead)] ++ β⟩ a w := by
  obtain ⟨ρ, I, hm, hfr⟩ := hat
  obtain ⟨g, us, e1, e2, ⟨ka, u1, q1, _, ⟨r1, _⟩, va, u2, q2, _, ⟨r2, _⟩, ca, u3, q3, _, ⟨r3, _⟩, q4⟩⟩ := hm.box id _ hl
  obtain ⟨xs1, b1, b2⟩ := hm.box i1 _ h1
  obtain ⟨xs2, b3, b4⟩ := hm.box i2 _ h2
  obtain ⟨f3, xs3, f0, b5, b6, b7, b8⟩ := hm.box i3 _ h3
  have hk3 : KidsRep Q w ts (ρ i3) f3 := ⟨xs3, f0, b5, b6, b7, b8⟩
  have hk3n : f3.Nodup := b8
  rw [strs_repC b2] at b1
  rw [ints_repC b4] at b3
  have hus : us = #[ka, va, ca] := by
    apply Array.toList_inj.1
    rw [q1, q2, q3, q4]
  have hx0 : (Box.var Q.T [A.ow i1 n1, .ow i2 n2, .ow i3 n3]).has w (ρ id) g := by show blk (ρ id) = some g; rw [e1]; rfl
  have hx1 : ∀ k ∈ blkL (ρ i1), (Box.row Q.K 1 (ks.map strE)).has w (ρ i1) k := fun k hk => by unfold blkL at hk; exact (by simpa using hk : blk (ρ i1) = some k)
  have hx2 : ∀ k ∈ blkL (ρ i2), (Box.row Q.V 1 (vs.map intE)).has w (ρ i2) k := fun k hk => by unfold blkL at hk; exact (by simpa using hk : blk (ρ i2) = some k)
  have hx3 : ∀ k ∈ f3, (Box.res (kidsR Q ts)).has w (ρ i3) k := fun k hk => ⟨f3, hk3, hk⟩
  have n01 : id ≠ i1 := fun e => by rw [e, h1] at hl; cases hl
  have n02 : id ≠ i2 := fun e => by rw [e, h2] at hl; cases hl
  have n03 : id ≠ i3 := fun e => by rw [e, h3] at hl; cases hl
  have n13 : i1 ≠ i3 := fun e => by rw [e, h3] at h1; cases h1
  have n23 : i2 ≠ i3 := fun e => by rw [e, h3] at h2; cases h2
  have d01 : g ∉ blkL (ρ i1) := fun h => n01 (hm.inj id i1 _ _ g hl h1 hx0 (hx1 g h))
  have d02 : g ∉ blkL (ρ i2) := fun h => n02 (hm.inj id i2 _ _ g hl h2 hx0 (hx2 g h))
  have d03 : g ∉ f3 := fun h => n03 (hm.inj id i3 _ _ g hl h3 hx0 (hx3 g h))
  have d13 : ∀ k ∈ blkL (ρ i1), k ∉ f3 := fun k hk h => n13 (hm.inj i1 i3 _ _ k h1 h3 (hx1 k hk) (hx3 k h))
  have d23 : ∀ k ∈ blkL (ρ i2), k ∉ f3 := fun k hk h => n23 (hm.inj i2 i3 _ _ k h2 h3 (hx2 k hk) (hx3 k h))
  have nb : ∀ v : Value, (blkL v).Nodup := fun v => by unfold blkL; cases blk v <;> simp
  have d12 : ∀ k ∈ blkL (ρ i1), k ∉ blkL (ρ i2) := fun k hk h => h12 (hm.inj i1 i2 _ _ k h1 h2 (hx1 k hk) (hx2 k h))
  have hnew : TreeRep Q w (.node ks vs ts) (ρ id) (g :: (blkL (ρ i1) ++ (blkL (ρ i2) ++ f3))) := by
    refine ⟨g, ρ i1, ρ i2, ρ i3, xs3, f0, e1, by rw [e2, hus, r1, r2, r3], by simpa using b1, by simpa using b3, b5, b6, by rw [b7], ?_⟩
    refine List.nodup_cons.2 ⟨?_, List.nodup_append.2 ⟨nb _, List.nodup_append.2 ⟨nb _, hk3n, fun x hx y hy e => d23 x hx (e ▸ hy)⟩, fun x hx y hy e => ?_⟩⟩
    · intro h
      rcases List.mem_append.1 h with h | h
      · exact d01 h
      · rcases List.mem_append.1 h with h | h
        · exact d02 h
        · exact d03 h
    · subst e
      rcases List.mem_append.1 hy with h | h
      · exact d12 x hx h
      · exact d13 x hx h
  have cls : ∀ (x : Nat) (B : Box) (k : Nat), look x [(id, Box.res (treeR Q (.node ks vs ts))), (i1, .dead), (i2, .dead), (i3, .dead)] = some B → B.has w (ρ x) k → x = id ∧ k ∈ g :: (blkL (ρ i1) ++ (blkL (ρ i2) ++ f3)) := by
    intro x B k hx hB
    rcases look_of4 hx with ⟨rfl, rfl⟩ | ⟨rfl, rfl⟩ | ⟨rfl, rfl⟩ | ⟨rfl, rfl⟩
    · obtain ⟨f', hf', hk⟩ := hB
      rw [TreeRep.det _ hf' hnew] at hk
      exact ⟨rfl, hk⟩
    · exact hB.elim
    · exact hB.elim
    · exact hB.elim
  refine at_regroup hm hfr _ ρ [] (fun _ _ => rfl) (fun i b hi => ?_) (fun i b k hi hh => ?_) (fun i j b b' k hi hj hh hh' => (cls i b k hi hh).1.trans (cls j b' k hj hh').1.symm) (fun t v ht => by cases ht)
  · rcases look_of4 hi with ⟨rfl, rfl⟩ | ⟨rfl, rfl⟩ | ⟨rfl, rfl⟩ | ⟨rfl, rfl⟩
    · exact ⟨⟨_, hnew⟩, trivial⟩
    · exact ⟨trivial, trivial⟩
    · exact ⟨trivial, trivial⟩
    · exact ⟨trivial, trivial⟩
  · obtain ⟨_, h⟩ := cls i b k hi hh
    rcases List.mem_cons.1 h with rfl | h
    · exact ⟨id, _, hl, look_a, hx0⟩
    · rcases List.mem_append.1 h with h | h
      · exact ⟨i1, _, h1, look_b, hx1 k h⟩
      · rcases List.mem_append.1 h with h | h
        · exact ⟨i2, _, h2, look_c, hx2 k h⟩
        · exact ⟨i3, _, h3, look_d, hx3 k h⟩
/-- No kids, as a row of one's own. -/
theorem ent_knil (id j : Nat) {x y : A} (hl : look id β = some (.var Q.T [x, y, .d .nl])) (hj : look j β = none) (hat : At C ⟨σ, β⟩ a w) :
    At C ⟨σ, [(id, .var Q.T [x, y, .ow j 0]), (j, .res (kidsR Q []))] ++ β⟩ a w := by
  obtain ⟨ρ, I, hm, hfr⟩ := hat
  obtain ⟨g, us, e1, e2, ⟨ka, u1, q1, o1, r1, va, u2, q2, o2, r2, ca, u3, q3, o3, r3, q4⟩⟩ := hm.box id _ hl
  have r3 : ca = .slice none 0 0 := r3
  have hne : id ≠ j := fun e => by rw [e, hj] at hl; cases hl
  have hcl := hm.clo id _ hl
  have hdj := upd_dom hj ρ (.slice none 0 0)
  have hx' : Ext β ρ I w (updF ρ j (.slice none 0 0)) I w := ⟨⟨fun _ h => h, fun _ _ => rfl⟩, hdj⟩
  have hid : updF ρ j (.slice none 0 0) id = ρ id := hdj id (by unfold dom; rw [hl]; simp)
  have hx0 : (Box.var Q.T [x, y, .d .nl]).has w (ρ id) g := by show blk (ρ id) = some g; rw [e1]; rfl
  have hk : KidsRep Q w [] (updF ρ j (.slice none 0 0) j) [] := ⟨[], [], by rw [upd_same]; exact ⟨by simp, .inl ⟨rfl, rfl⟩⟩, ⟨rfl, rfl⟩, by rw [upd_same]; rfl, List.nodup_nil⟩
  have cls : ∀ (z : Nat) (B : Box) (k : Nat), look z [(id, Box.var Q.T [x, y, .ow j 0]), (j, .res (kidsR Q []))] = some B → B.has w (updF ρ j (.slice none 0 0) z) k → z = id ∧ k = g := by
    intro z B k hz hB
    rcases look_of2 hz with ⟨rfl, rfl⟩ | ⟨rfl, rfl⟩
    · have hB : blk _ = some k := hB
      rw [hid, e1] at hB
      injection hB with hB
      exact ⟨rfl, hB.symm⟩
    · obtain ⟨f', hf', hk'⟩ := hB
      rw [(kidsR Q []).det hf' hk] at hk'
      cases hk'
  refine at_regroup hm hfr _ (updF ρ j (.slice none 0 0)) [] hdj (fun i b hi => ?_) (fun i b k hi hh => ⟨id, _, hl, look_a, by rw [(cls i b k hi hh).2]; exact hx0⟩) (fun i j b b' k hi hj hh hh' => (cls i b k hi hh).1.trans (cls j b' k hj hh').1.symm) (fun t v ht => by cases ht)
  rcases look_of2 hi with ⟨rfl, rfl⟩ | ⟨rfl, rfl⟩
  · refine ⟨⟨g, us, hid.trans e1, e2, ⟨ka, u1, q1, o1, RepA.ext hx' x _ hcl.1 r1, va, u2, q2, o2, RepA.ext hx' y _ hcl.2.1 r2, ca, u3, q3, fun _ => rfl, ⟨by rw [upd_same, r3], none, 0, r3, Nat.le_refl _, fun h => by omega⟩, q4⟩⟩, ?_⟩
    exact ⟨A.inB_mono (fun i hi => dom_append hi) x hcl.1, A.inB_mono (fun i hi => dom_append hi) y hcl.2.1, dom_left look_b, trivial⟩
  · exact ⟨⟨_, hk⟩, trivial⟩
/-- The kids' pointers as data. -/
theorem mem_kopen (i3 i4 : Nat) {ts : List Tn} (hl : look i3 β = some (.res (kidsR Q ts))) (h4 : look i4 β = none) (hm : Mem C β ρ I w) :
    ∃ ps : {ps : List Value // ps.length = ts.length}, Mem C ([(i3, .row Q.E 1 (ps.1.map ptrE)), (i4, .res (forestR Q ts ps.1))] ++ β) ρ I w := by
  obtain ⟨fs, xs, f0, b1, b2, b3, b4⟩ := hm.box i3 _ hl
  have hlen := forest_len b2
  have hk : KidsRep Q w ts (ρ i3) fs := ⟨xs, f0, b1, b2, b3, b4⟩
  have hhas : ∀ k ∈ fs, (Box.res (kidsR Q ts)).has w (ρ i3) k := fun k hk' => ⟨fs, hk, hk'⟩
  refine ⟨⟨xs, hlen⟩, ?_⟩
  have cls : ∀ (z : Nat) (B : Box) (k : Nat), look z [(i3, Box.row Q.E 1 (xs.map ptrE)), (i4, .res (forestR Q ts xs))] = some B → B.has w (ρ z) k → (z = i3 ∧ k ∈ blkL (ρ i3)) ∨ (z = i4 ∧ k ∈ f0) := by
    intro z B k hz hB
    rcases look_of2 hz with ⟨rfl, rfl⟩ | ⟨rfl, rfl⟩
    · exact .inl ⟨rfl, blkL_mem hB⟩
    · obtain ⟨f', hf', hk'⟩ := hB
      rw [ForestRep.det _ hf' b2] at hk'
      exact .inr ⟨rfl, hk'⟩
  refine (mem_regroup hm _ ρ (fun _ _ => rfl) (fun i b hi => ?_) (fun i b k hi hh => ⟨i3, _, hl, look_a, hhas k ?_⟩) (fun i j b b' k hi hj hh hh' => ?_)).1
  · rcases look_of2 hi with ⟨rfl, rfl⟩ | ⟨rfl, rfl⟩
    · exact ⟨⟨xs, by rw [List.length_map, hlen]; exact b1, repC_ptrs I w xs fun p hp => by obtain ⟨g, rfl⟩ := forest_ptr b2 p hp; rfl⟩, trivial⟩
    · exact ⟨⟨f0, b2⟩, trivial⟩
  · rw [b3]
    rcases cls i b k hi hh with ⟨_, h⟩ | ⟨_, h⟩ <;> simp [h]
  · rw [b3] at b4
    rcases cls i b k hi hh with ⟨rfl, h⟩ | ⟨rfl, h⟩ <;> rcases cls j b' k hj hh' with ⟨rfl, h'⟩ | ⟨rfl, h'⟩
    · rfl
    · exact absurd rfl ((List.nodup_append.1 b4).2.2 k h k h')
    · exact absurd rfl ((List.nodup_append.1 b4).2.2 k h' k h)
    · rfl
theorem mem_kshut (i3 i4 : Nat) {ts : List Tn} {ps : List Value} (hl : look i3 β = some (.row Q.E 1 (ps.map ptrE))) (h4 : look i4 β = some (.res (forestR Q ts ps))) (hm : Mem C β ρ I w) :
    Mem C ([(i3, .res (kidsR Q ts)), (i4, .dead)] ++ β) ρ I w := by
  obtain ⟨xs, b1, b2⟩ := hm.box i3 _ hl
  obtain ⟨f0, b3⟩ := hm.box i4 _ h4
  have b3 : ForestRep Q w ts ps f0 := b3
  rw [ptrs_repC b2, List.length_map, forest_len b3] at b1
  have hne : i3 ≠ i4 := fun e => by rw [e, h4] at hl; cases hl
  have hx1 : ∀ k ∈ blkL (ρ i3), (Box.row Q.E 1 (ps.map ptrE)).has w (ρ i3) k := fun k hk => by unfold blkL at hk; exact (by simpa using hk : blk (ρ i3) = some k)
  have hx2 : ∀ k ∈ f0, (Box.res (forestR Q ts ps)).has w (ρ i4) k := fun k hk => ⟨f0, b3, hk⟩
  have nb : (blkL (ρ i3)).Nodup := by unfold blkL; cases blk (ρ i3) <;> simp
  have hnew : KidsRep Q w ts (ρ i3) (blkL (ρ i3) ++ f0) := ⟨ps, f0, b1, b3, rfl, List.nodup_append.2 ⟨nb, forest_nodup b3, fun x hx y hy e => by subst e; exact hne (hm.inj i3 i4 _ _ x hl h4 (hx1 x hx) (hx2 x hy))⟩⟩
  have cls : ∀ (z : Nat) (B : Box) (k : Nat), look z [(i3, Box.res (kidsR Q ts)), (i4, .dead)] = some B → B.has w (ρ z) k → z = i3 ∧ k ∈ blkL (ρ i3) ++ f0 := by
    intro z B k hz hB
    rcases look_of2 hz with ⟨rfl, rfl⟩ | ⟨rfl, rfl⟩
    · obtain ⟨f', hf', hk'⟩ := hB
      rw [(kidsR Q ts).det hf' hnew] at hk'
      exact ⟨rfl, hk'⟩
    · exact hB.elim
  refine (mem_regroup hm _ ρ (fun _ _ => rfl) (fun i b hi => ?_) (fun i b k hi hh => ?_) (fun i j b b' k hi hj hh hh' => (cls i b k hi hh).1.trans (cls j b' k hj hh').1.symm)).1
  · rcases look_of2 hi with ⟨rfl, rfl⟩ | ⟨rfl, rfl⟩
    · exact ⟨⟨_, hnew⟩, trivial⟩
    · exact ⟨trivial, trivial⟩
  · rcases List.mem_append.1 (cls i b k hi hh).2 with h | h
    · exact ⟨i3, _, hl, look_a, hx1 k h⟩
    · exact ⟨i4, _, h4, look_b, hx2 k h⟩
/-- A kid is given back. -/
theorem mem_kback (i3 j : Nat) {t : Tn} {l1 l2 : List Tn} (hl : look i3 β = some (.rel j (kidHole Q l1 l2))) (hj : look j β = some (.res (treeR Q t))) (hm : Mem C β ρ I w) :
    Mem C ([(i3, .res (kidsR Q (l1 ++ t :: l2))), (j, .dead)] ++ β) ρ I w := by
  obtain ⟨fs, p1, p2, f0, b1, b2, b3, b4, b5⟩ := hm.box i3 _ hl
  obtain ⟨ft, ht⟩ := hm.box j _ hj
  have ht : TreeRep Q w t (ρ j) ft := ht
  have hne : i3 ≠ j := fun e => by rw [e, hj] at hl; cases hl
  have hh0 : (kidHole Q l1 l2).rep w (ρ j) (ρ i3) fs := ⟨p1, p2, f0, b1, b2, b3, b4, b5⟩
  have hx1 : ∀ k ∈ fs, (Box.rel j (kidHole Q l1 l2)).has w (ρ i3) k := fun k hk => ⟨_, fs, hh0, hk⟩
  have hx2 : ∀ k ∈ ft, (Box.res (treeR Q t)).has w (ρ j) k := fun k hk => ⟨ft, ht, hk⟩
  have hd : ∀ k ∈ fs, k ∉ ft := fun k h h' => hne (hm.inj i3 j _ _ k hl hj (hx1 k h) (hx2 k h'))
  obtain ⟨fa, fb, c1, c2, c3⟩ := forest_app b2 b3
  have knd := forest_nodup b3
  rw [c3] at knd
  have in0 : ∀ g ∈ f0, g ∈ fs := fun g hg => by rw [b4]; exact List.mem_append_right _ hg
  have knew := app_forest c1 (app_forest (forest_one ht) c2 fun g hg hb => hd g (in0 g (by rw [c3]; simp [hb])) hg) fun g hg hb => by
    rcases List.mem_append.1 hb with hb | hb
    · exact hd g (in0 g (by rw [c3]; simp [hg])) hb
    · exact (List.nodup_append.1 knd).2.2 g hg g hb rfl
  rw [b4] at b5
  have hnew : KidsRep Q w (l1 ++ t :: l2) (ρ i3) (blkL (ρ i3) ++ (fa ++ (ft ++ fb))) := by
    refine ⟨p1 ++ ρ j :: p2, _, ?_, knew, rfl, List.nodup_append.2 ⟨(List.nodup_append.1 b5).1, forest_nodup knew, fun x hx y hy e => ?_⟩⟩
    · have : (l1 ++ t :: l2).length = l1.length + 1 + l2.length := by rw [List.length_append, List.length_cons]; omega
      rw [this]; exact b1
    · subst e
      have hin : x ∈ fs := by rw [b4]; exact List.mem_append_left _ hx
      rcases List.mem_append.1 hy with h | h
      · exact (List.nodup_append.1 b5).2.2 x hx x (by rw [c3]; simp [h]) rfl
      · rcases List.mem_append.1 h with h | h
        · exact hd x hin h
        · exact (List.nodup_append.1 b5).2.2 x hx x (by rw [c3]; simp [h]) rfl
  have cls : ∀ (z : Nat) (B : Box) (k : Nat), look z [(i3, Box.res (kidsR Q (l1 ++ t :: l2))), (j, .dead)] = some B → B.has w (ρ z) k → z = i3 ∧ k ∈ blkL (ρ i3) ++ (fa ++ (ft ++ fb)) := by
    intro z B k hz hB
    rcases look_of2 hz with ⟨rfl, rfl⟩ | ⟨rfl, rfl⟩
    · obtain ⟨f', hf', hk'⟩ := hB
      rw [(kidsR Q _).det hf' hnew] at hk'
      exact ⟨rfl, hk'⟩
    · exact hB.elim
  refine (mem_regroup hm _ ρ (fun _ _ => rfl) (fun i b hi => ?_) (fun i b k hi hh => ?_) (fun i j b b' k hi hj hh hh' => (cls i b k hi hh).1.trans (cls j b' k hj hh').1.symm)).1
  · rcases look_of2 hi with ⟨rfl, rfl⟩ | ⟨rfl, rfl⟩
    · exact ⟨⟨_, hnew⟩, trivial⟩
    · exact ⟨trivial, trivial⟩
  · rcases List.mem_append.1 (cls i b k hi hh).2 with h | h
    · exact ⟨i3, _, hl, look_a, hx1 k (by rw [b4]; exact List.mem_append_left _ h)⟩
    · rcases List.mem_append.1 h with h | h
      · exact ⟨i3, _, hl, look_a, hx1 k (in0 k (by rw [c3]; simp [h]))⟩
      · rcases List.mem_append.1 h with h | h
        · exact ⟨j, _, hj, look_b, hx2 k h⟩
        · exact ⟨i3, _, hl, look_a, hx1 k (in0 k (by rw [c3]; simp [h]))⟩
/-- The kids' pointers as data. -/
theorem ent_kopen (i3 i4 : Nat) {ts : List Tn} (hl : look i3 β = some (.res (kidsR Q ts))) (h4 : look i4 β = none) (hat : At C ⟨σ, β⟩ a w) :
    ∃ ps : {ps : List Value // ps.length = ts.length}, At C ⟨σ, [(i3, .row Q.E 1 (ps.1.map ptrE)), (i4, .res (forestR Q ts ps.1))] ++ β⟩ a w := by
  obtain ⟨ρ, I, hm, hfr⟩ := hat
  obtain ⟨ps, h⟩ := mem_kopen i3 i4 hl h4 hm
  refine ⟨ps, ρ, I, h, hfr.defers, hfr.size, hfr.keep, fun t v ht => ?_⟩
  obtain ⟨q1, q2, q3⟩ := hfr.val t v ht
  exact ⟨q1, A.inB_mono (fun i hi => dom_append hi) v q2, q3⟩
theorem ent_kshut (i3 i4 : Nat) {ts : List Tn} {ps : List Value} (hl : look i3 β = some (.row Q.E 1 (ps.map ptrE))) (h4 : look i4 β = some (.res (forestR Q ts ps))) (hat : At C ⟨σ, β⟩ a w) :
    At C ⟨σ, [(i3, .res (kidsR Q ts)), (i4, .dead)] ++ β⟩ a w := at_mem (fun _ _ hm => mem_kshut i3 i4 hl h4 hm) hat
/-- A kid is given back. -/
theorem ent_kback (i3 j : Nat) {t : Tn} {l1 l2 : List Tn} (hl : look i3 β = some (.rel j (kidHole Q l1 l2))) (hj : look j β = some (.res (treeR Q t))) (hat : At C ⟨σ, β⟩ a w) :
    At C ⟨σ, [(i3, .res (kidsR Q (l1 ++ t :: l2))), (j, .dead)] ++ β⟩ a w := at_mem (fun _ _ hm => mem_kback i3 j hl hj hm) hat
end
end Go.Proofs.YtfplkakfakdfhaaDoor


/-
  The pure layer: forests joined and cut. No condition.
-/
namespace Go.Proofs.YtfplkakfakdfhaaDoor
set_option linter.unusedSimpArgs false
set_option linter.unusedVariables false
open Go.RowKit

section
variable {Q : TrTy} {σ : Sl} {β : Bx} {C : Ctx} {a : Act} {w : World} {ρ : Nat → Value} {I : Nat → Prop}
/-- A tree joins a forest: its address is data then. -/
theorem ent_join (s i4 X : Nat) {t : Tn} {l1 l2 : List Tn} {p1 p2 : List Value} (hs : look s σ = some (.px X 0)) (hX : look X β = some (.res (treeR Q t))) (h4 : look i4 β = some (.res (forestR Q (l1 ++ l2) (p1 ++ p2)))) (hp : p1.length = l1.length) (hat : At C ⟨σ, β⟩ a w) :
    ∃ p : {p : Value // ∃ g : Nat, p = .pointer (some ⟨g, 0, none⟩)}, At C ⟨(s, .d (.sc p.1)) :: σ, [(i4, .res (forestR Q (l1 ++ t :: l2) (p1 ++ p.1 :: p2))), (X, .dead)] ++ β⟩ a w := by
  obtain ⟨ρ, I, hm, hfr⟩ := hat
  obtain ⟨fs, hf⟩ := hm.box i4 _ h4
  obtain ⟨ft, ht⟩ := hm.box X _ hX
  have ht : TreeRep Q w t (ρ X) ft := ht
  obtain ⟨g0, hg0⟩ := tree_ptr ht
  obtain ⟨fa, fb, k1, k2, k3⟩ := forest_app hp hf
  have hne : X ≠ i4 := fun e => by
    rw [e, h4] at hX
    injection hX with hX
    injection hX with hX
    have h2 : (treeR Q t).rep w undef fs := by rw [← hX]; exact hf
    obtain ⟨g, hg⟩ := tree_ptr (h2 : TreeRep Q w t undef fs)
    cases hg
  have hhas : ∀ g ∈ fs, (Box.res (forestR Q (l1 ++ l2) (p1 ++ p2))).has w (ρ i4) g := fun g hg => ⟨fs, hf, hg⟩
  have hhas2 : ∀ g ∈ ft, (Box.res (treeR Q t)).has w (ρ X) g := fun g hg => ⟨ft, ht, hg⟩
  have hd : ∀ g ∈ ft, g ∉ fs := fun g hg hg' => hne (hm.inj X i4 _ _ g hX h4 (hhas2 g hg) (hhas g hg'))
  have knd := forest_nodup hf
  rw [k3] at knd
  have knew := app_forest k1 (app_forest (forest_one ht) k2 fun g hg hb => hd g hg (by rw [k3]; simp [hb])) fun g hg hb => by
    rcases List.mem_append.1 hb with hb | hb
    · exact hd g hb (by rw [k3]; simp [hg])
    · exact (List.nodup_append.1 knd).2.2 g hg g hb rfl
  refine ⟨⟨ρ X, g0, hg0⟩, ?_⟩
  have cls : ∀ i b k, look i [(i4, Box.res (forestR Q (l1 ++ t :: l2) (p1 ++ ρ X :: p2))), (X, .dead)] = some b → b.has w (ρ i) k → i = i4 ∧ k ∈ fa ++ (ft ++ fb) := fun i b k hi hh => by
    rcases look_of2 hi with ⟨rfl, rfl⟩ | ⟨rfl, rfl⟩
    · obtain ⟨f', hf', hk⟩ := hh
      rw [ForestRep.det _ hf' knew] at hk
      exact ⟨rfl, hk⟩
    · exact hh.elim
  refine at_regroup hm hfr _ ρ [(s, .d (.sc (ρ X)))] (fun _ _ => rfl) (fun i b hi => ?_) (fun i b k hi hh => ?_) (fun i i' b b' k hi hi' hh hh' => ?_) (fun t' v ht' => ?_)
  · rcases look_of2 hi with ⟨rfl, rfl⟩ | ⟨rfl, rfl⟩
    · exact ⟨⟨_, knew⟩, trivial⟩
    · exact ⟨trivial, trivial⟩
  · obtain ⟨_, h⟩ := cls i b k hi hh
    rcases List.mem_append.1 h with h | h
    · exact ⟨i4, _, h4, look_a, hhas k (by rw [k3]; simp [h])⟩
    · rcases List.mem_append.1 h with h | h
      · exact ⟨X, _, hX, look_b, hhas2 k h⟩
      · exact ⟨i4, _, h4, look_a, hhas k (by rw [k3]; simp [h])⟩
  · exact (cls i b k hi hh).1.trans (cls i' b' k hi' hh').1.symm
  · rw [look_cons] at ht'
    split at ht'
    · rename_i e
      subst e
      injection ht' with ht'
      subst ht'
      obtain ⟨g, q1, q2⟩ := (hfr.val s _ hs).2.2
      refine ⟨by rw [hs]; simp, trivial, ?_, ?_⟩
      · exact q2.trans q1.symm
      · rw [hg0]; rfl
    · cases ht'
/-- A forest is cut in two. -/
theorem mem_split (i4 j : Nat) {l1 l2 : List Tn} {p1 p2 : List Value} (h4 : look i4 β = some (.res (forestR Q (l1 ++ l2) (p1 ++ p2)))) (hp : p1.length = l1.length) (hj : look j β = none) (hm : Mem C β ρ I w) :
    Mem C ([(i4, .res (forestR Q l1 p1)), (j, .res (forestR Q l2 p2))] ++ β) ρ I w := by
  obtain ⟨fs, hf⟩ := hm.box i4 _ h4
  obtain ⟨fa, fb, k1, k2, k3⟩ := forest_app hp hf
  have hhas : ∀ g ∈ fs, (Box.res (forestR Q (l1 ++ l2) (p1 ++ p2))).has w (ρ i4) g := fun g hg => ⟨fs, hf, hg⟩
  have knd := forest_nodup hf
  rw [k3] at knd
  have cls : ∀ i b k, look i [(i4, Box.res (forestR Q l1 p1)), (j, .res (forestR Q l2 p2))] = some b → b.has w (ρ i) k → (i = i4 ∧ k ∈ fa) ∨ (i = j ∧ k ∈ fb) := fun i b k hi hh => by
    rcases look_of2 hi with ⟨rfl, rfl⟩ | ⟨rfl, rfl⟩
    · obtain ⟨f', hf', hk⟩ := hh
      rw [ForestRep.det _ hf' k1] at hk
      exact .inl ⟨rfl, hk⟩
    · obtain ⟨f', hf', hk⟩ := hh
      rw [ForestRep.det _ hf' k2] at hk
      exact .inr ⟨rfl, hk⟩
  refine (mem_regroup hm _ ρ (fun _ _ => rfl) (fun i b hi => ?_) (fun i b k hi hh => ⟨i4, _, h4, look_a, hhas k ?_⟩) (fun i i' b b' k hi hi' hh hh' => ?_)).1
  · rcases look_of2 hi with ⟨rfl, rfl⟩ | ⟨rfl, rfl⟩
    · exact ⟨⟨_, k1⟩, trivial⟩
    · exact ⟨⟨_, k2⟩, trivial⟩
  · rw [k3]
    rcases cls i b k hi hh with ⟨_, h⟩ | ⟨_, h⟩ <;> simp [h]
  · rcases cls i b k hi hh with ⟨rfl, h⟩ | ⟨rfl, h⟩ <;> rcases cls i' b' k hi' hh' with ⟨rfl, h'⟩ | ⟨rfl, h'⟩
    · rfl
    · exact absurd rfl ((List.nodup_append.1 knd).2.2 k h k h')
    · exact absurd rfl ((List.nodup_append.1 knd).2.2 k h' k h)
    · rfl
theorem ent_split (i4 j : Nat) {l1 l2 : List Tn} {p1 p2 : List Value} (h4 : look i4 β = some (.res (forestR Q (l1 ++ l2) (p1 ++ p2)))) (hp : p1.length = l1.length) (hj : look j β = none) (hat : At C ⟨σ, β⟩ a w) :
    At C ⟨σ, [(i4, .res (forestR Q l1 p1)), (j, .res (forestR Q l2 p2))] ++ β⟩ a w := at_mem (fun _ _ hm => mem_split i4 j h4 hp hj hm) hat
/-- Two forests, one behind the other. -/
theorem mem_fjoin (i4 j : Nat) {l1 l2 : List Tn} {p1 p2 : List Value} (h4 : look i4 β = some (.res (forestR Q l1 p1))) (hj : look j β = some (.res (forestR Q l2 p2))) (hne : i4 ≠ j) (hm : Mem C β ρ I w) :
    Mem C ([(i4, .res (forestR Q (l1 ++ l2) (p1 ++ p2))), (j, .dead)] ++ β) ρ I w := by
  obtain ⟨fa, ka⟩ := hm.box i4 _ h4
  obtain ⟨fb, kb⟩ := hm.box j _ hj
  have ka : ForestRep Q w l1 p1 fa := ka
  have kb : ForestRep Q w l2 p2 fb := kb
  have hx1 : ∀ g ∈ fa, (Box.res (forestR Q l1 p1)).has w (ρ i4) g := fun g hg => ⟨fa, ka, hg⟩
  have hx2 : ∀ g ∈ fb, (Box.res (forestR Q l2 p2)).has w (ρ j) g := fun g hg => ⟨fb, kb, hg⟩
  have knew := app_forest ka kb fun g hg hb => hne (hm.inj i4 j _ _ g h4 hj (hx1 g hg) (hx2 g hb))
  have cls : ∀ i b k, look i [(i4, Box.res (forestR Q (l1 ++ l2) (p1 ++ p2))), (j, .dead)] = some b → b.has w (ρ i) k → i = i4 ∧ k ∈ fa ++ fb := fun i b k hi hh => by
    rcases look_of2 hi with ⟨rfl, rfl⟩ | ⟨rfl, rfl⟩
    · obtain ⟨f', hf', hk⟩ := hh
      rw [ForestRep.det _ hf' knew] at hk
      exact ⟨rfl, hk⟩
    · exact hh.elim
  refine (mem_regroup hm _ ρ (fun _ _ => rfl) (fun i b hi => ?_) (fun i b k hi hh => ?_) (fun i i' b b' k hi hi' hh hh' => (cls i b k hi hh).1.trans (cls i' b' k hi' hh').1.symm)).1
  · rcases look_of2 hi with ⟨rfl, rfl⟩ | ⟨rfl, rfl⟩
    · exact ⟨⟨_, knew⟩, trivial⟩
    · exact ⟨trivial, trivial⟩
  · rcases List.mem_append.1 (cls i b k hi hh).2 with h | h
    · exact ⟨i4, _, h4, look_a, hx1 k h⟩
    · exact ⟨j, _, hj, look_b, hx2 k h⟩
/-- A tree's box as a forest of one. -/
theorem mem_fone (X : Nat) {t : Tn} (hX : look X β = some (.res (treeR Q t))) (hm : Mem C β ρ I w) : Mem C ([(X, .res (forestR Q [t] [ρ X]))] ++ β) ρ I w := by
  obtain ⟨ft, ht⟩ := hm.box X _ hX
  have ht : TreeRep Q w t (ρ X) ft := ht
  have hx2 : ∀ g ∈ ft, (Box.res (treeR Q t)).has w (ρ X) g := fun g hg => ⟨ft, ht, hg⟩
  have knew := forest_one ht
  have cls : ∀ i b k, look i [(X, Box.res (forestR Q [t] [ρ X]))] = some b → b.has w (ρ i) k → i = X ∧ k ∈ ft := fun i b k hi hh => by
    obtain ⟨rfl, rfl⟩ := look_one hi
    obtain ⟨f', hf', hk⟩ := hh
    rw [ForestRep.det _ hf' knew] at hk
    exact ⟨rfl, hk⟩
  refine (mem_regroup hm _ ρ (fun _ _ => rfl) (fun i b hi => ?_) (fun i b k hi hh => ⟨X, _, hX, look_a, hx2 k (cls i b k hi hh).2⟩) (fun i i' b b' k hi hi' hh hh' => (cls i b k hi hh).1.trans (cls i' b' k hi' hh').1.symm)).1
  obtain ⟨rfl, rfl⟩ := look_one hi
  exact ⟨⟨_, knew⟩, trivial⟩
end
end Go.Proofs.YtfplkakfakdfhaaDoor

