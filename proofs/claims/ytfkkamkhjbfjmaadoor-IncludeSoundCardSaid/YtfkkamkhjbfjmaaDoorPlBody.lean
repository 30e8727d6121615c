/-
  The pure layer: a body, its loops, a function's contract. No condition.
-/
import Derived.Test.YtfkkamkhjbfjmaaDoorPlDraw
import Derived.Deep.LoopGhost
import Derived.ScopeJumps
namespace Go.Proofs.YtfkkamkhjbfjmaaDoor
set_option linter.unusedSimpArgs false
set_option linter.unusedVariables false
open Go.RowKit

mutual
def A.ren (π : Nat → Nat) : A → A
  | .d x => .d x
  | .ag cs => .ag (A.rens π cs)
  | .tu vs => .tu (A.rens π vs)
  | .pe sz es i off => .pe sz es i off
  | .px id off => .px (π id) off
  | .pr id sz k off => .pr (π id) sz k off
  | .ow id n => .ow (π id) n
  | .sx id n c => .sx (π id) n c
  | .fn f a b => .fn f (A.rens π a) (A.rens π b)
  | .gd x v => .gd x (A.ren π v)
  | .un => .un
def A.rens (π : Nat → Nat) : List A → List A
  | [] => []
  | x :: r => A.ren π x :: A.rens π r
end
def Box.ren (π : Nat → Nat) : Box → Box
  | .var T cs => .var T (A.rens π cs)
  | b => b
theorem one_ren (π : Nat → Nat) (v : A) : (v.ren π).one = v.one := by cases v <;> rfl
mutual
theorem RepA.ren {ρ : Nat → Value} {I : Nat → Prop} {w : World} (π : Nat → Nat) : ∀ (v : A) (x : Value), RepA ρ I w (v.ren π) x → RepA (fun i => ρ (π i)) I w v x
  | .d d, x, h => h
  | .ag cs, _, ⟨us, hx, hr⟩ => ⟨us, hx, RepAs.ren π true cs _ hr⟩
  | .tu cs, _, ⟨us, hx, hr⟩ => ⟨us, hx, RepAs.ren π false cs _ hr⟩
  | .pe sz es i off, _, h => h
  | .px id off, _, h => h
  | .pr id sz k off, _, h => h
  | .ow id n, _, h => h
  | .sx id n c, _, h => h
  | .fn f a b, _, ⟨us, vs, hx, h1, h2⟩ => ⟨us, vs, hx, RepAs.ren π false a _ h1, RepAs.ren π false b _ h2⟩
  | .gd x a, v, h => by
    unfold A.ren at h
    unfold RepA at h ⊢
    split at h
    · rename_i hx; rw [if_pos hx]; exact RepA.ren π a v h
    · rename_i hx; rw [if_neg hx]; exact h
  | .un, _, _ => trivial
theorem RepAs.ren {ρ : Nat → Value} {I : Nat → Prop} {w : World} (π : Nat → Nat) (o : Bool) : ∀ (ds : List A) (l : List Value), RepAs ρ I w o (A.rens π ds) l → RepAs (fun i => ρ (π i)) I w o ds l
  | [], _, h => h
  | d :: ds, _, ⟨u, us, hx, ho, hd, hr⟩ => ⟨u, us, hx, fun h => by rw [← one_ren π d]; exact ho h, RepA.ren π d u hd, RepAs.ren π o ds us hr⟩
end
/-- Whatever stands for u stands for v. -/
def SubA (u v : A) : Prop := ∀ (ρ : Nat → Value) (I : Nat → Prop) (w : World) (x : Value), RepA ρ I w u x → RepA ρ I w v x
theorem SubA.refl (u : A) : SubA u u := fun _ _ _ _ h => h
theorem SubA.of_eq {u v : A} (h : u = v) : SubA u v := h ▸ SubA.refl u
def SubD (u v : D) : Prop := ∀ (I : Nat → Prop) (w : World) (x : Value), RepD I w u x → RepD I w v x
theorem SubD.refl (u : D) : SubD u u := fun _ _ _ h => h
theorem SubD.of_eq {u v : D} (h : u = v) : SubD u v := h ▸ SubD.refl u
theorem SubD.nil (sz : Nat) : SubD .nl (.sl sz []) := fun I w x h => ⟨none, 0, [], h, Nat.le_refl _, rfl, fun h => absurd h (by simp)⟩
theorem SubA.d {u v : D} (h : SubD u v) : SubA (.d u) (.d v) := fun _ I w x hx => h I w x hx
def SubDs : List D → List D → Prop
  | [], l => l = []
  | x :: xs, l => ∃ y ys, l = y :: ys ∧ SubD x y ∧ (x.one = true → y.one = true) ∧ SubDs xs ys
theorem SubDs.rep {o : Bool} {I : Nat → Prop} {w : World} : ∀ {xs ys : List D} {l : List Value}, SubDs xs ys → RepC I w o xs l → RepC I w o ys l
  | [], ys, l, h, hr => by cases h; exact hr
  | x :: xs, _, _, ⟨y, ys, rfl, h1, h2, h3⟩, ⟨u, us, hl, ho, hd, hr⟩ => ⟨u, us, hl, fun h => h2 (ho h), h1 _ _ _ hd, SubDs.rep h3 hr⟩
theorem SubDs.refl : ∀ l : List D, SubDs l l
  | [] => rfl
  | x :: xs => ⟨x, xs, rfl, SubD.refl x, id, SubDs.refl xs⟩
theorem SubDs.nil : SubDs [] [] := rfl
theorem SubDs.cons {x y : D} {xs ys : List D} (h1 : SubD x y) (h2 : x.one = true → y.one = true) (h3 : SubDs xs ys) : SubDs (x :: xs) (y :: ys) := ⟨y, ys, rfl, h1, h2, h3⟩
theorem SubD.tu {xs ys : List D} (h : SubDs xs ys) : SubD (.tu xs) (.tu ys) := fun I w x ⟨us, h1, h2⟩ => ⟨us, h1, h.rep h2⟩
theorem SubD.ag {xs ys : List D} (h : SubDs xs ys) : SubD (.ag xs) (.ag ys) := fun I w x ⟨us, h1, h2⟩ => ⟨us, h1, h.rep h2⟩
def keepS (π : Nat → Nat) (σ : Sl) : Sl → Prop
  | [] => True
  | (t, v) :: r => (∃ u, look t σ = some u ∧ SubA u (v.ren π)) ∧ keepS π σ r
def keepB (π : Nat → Nat) (β : Bx) : Bx → Prop
  | [] => True
  | (i, b) :: r => look (π i) β = some (b.ren π) ∧ keepB π β r
def onceB (π : Nat → Nat) : Bx → Bool
  | [] => true
  | (i, _) :: r => r.all (fun p => decide (π p.1 ≠ π i)) && onceB π r
def inBs (γ : Bx) : Sl → Prop
  | [] => True
  | (_, v) :: r => v.inB γ ∧ inBs γ r
def inBb (γ : Bx) : Bx → Prop
  | [] => True
  | (_, b) :: r => b.inB γ ∧ inBb γ r
theorem keepS_look {π : Nat → Nat} {σ : Sl} {t : Nat} {v : A} : ∀ {τ : Sl}, keepS π σ τ → look t τ = some v → ∃ u, look t σ = some u ∧ SubA u (v.ren π)
  | (k, u) :: r, h, hl => by
    rw [look_cons] at hl
    split at hl
    · rename_i hk; subst hk; simp only [Option.some.injEq] at hl; subst hl; exact h.1
    · exact keepS_look h.2 hl
theorem keepB_look {π : Nat → Nat} {β : Bx} {i : Nat} {b : Box} : ∀ {γ : Bx}, keepB π β γ → look i γ = some b → look (π i) β = some (b.ren π)
  | (k, u) :: r, h, hl => by
    rw [look_cons] at hl
    split at hl
    · rename_i hk; subst hk; simp only [Option.some.injEq] at hl; subst hl; exact h.1
    · exact keepB_look h.2 hl
theorem inBs_look {γ : Bx} {t : Nat} {v : A} : ∀ {τ : Sl}, inBs γ τ → look t τ = some v → v.inB γ
  | (k, u) :: r, h, hl => by
    rw [look_cons] at hl
    split at hl
    · simp only [Option.some.injEq] at hl; subst hl; exact h.1
    · exact inBs_look h.2 hl
theorem inBb_look {γ : Bx} {i : Nat} {b : Box} : ∀ {δ : Bx}, inBb γ δ → look i δ = some b → b.inB γ
  | (k, u) :: r, h, hl => by
    rw [look_cons] at hl
    split at hl
    · simp only [Option.some.injEq] at hl; subst hl; exact h.1
    · exact inBb_look h.2 hl
theorem look_mem {α : Type} {i : Nat} {b : α} : ∀ {l : List (Nat × α)}, look i l = some b → (i, b) ∈ l
  | (k, u) :: r, hl => by
    rw [look_cons] at hl
    split at hl
    · rename_i hk; subst hk; simp only [Option.some.injEq] at hl; subst hl; simp
    · exact List.mem_cons_of_mem _ (look_mem hl)
theorem onceB_inj {π : Nat → Nat} : ∀ {γ : Bx}, onceB π γ = true → ∀ {i j : Nat} {b b' : Box}, (i, b) ∈ γ → (j, b') ∈ γ → π i = π j → i = j
  | (k, u) :: r, h, i, j, b, b', hi, hj, e => by
    simp only [onceB, Bool.and_eq_true] at h
    have hn : ∀ p ∈ r, π p.1 ≠ π k := fun p hp => by simpa using List.all_eq_true.1 h.1 p hp
    rcases List.mem_cons.1 hi with hi1 | hi1
    · injection hi1 with h1 _
      subst h1
      rcases List.mem_cons.1 hj with hj1 | hj1
      · injection hj1 with h2 _; exact h2.symm
      · exact absurd e.symm (hn (j, b') hj1)
    · rcases List.mem_cons.1 hj with hj1 | hj1
      · injection hj1 with h2 _
        subst h2
        exact absurd e (hn (i, b) hi1)
      · exact onceB_inj h.2 hi1 hj1 e
def renOf (l : List (Nat × Nat)) (i : Nat) : Nat := (look i l).getD i
structure St where
  σ : Sl
  β : Bx
/-- The state s' is s, but for what is forgotten and for other numbers of boxes. -/
structure Forget (l : List (Nat × Nat)) (s s' : St) : Prop where
  slots : keepS (renOf l) s.σ s'.σ
  boxes : keepB (renOf l) s.β s'.β
  once : onceB (renOf l) s'.β = true
  inS : inBs s'.β s'.σ
  inB : inBb s'.β s'.β
theorem live_ren (π : Nat → Nat) (b : Box) : (b.ren π).live = b.live := by cases b <;> rfl
theorem BoxRep.ren {ρ : Nat → Value} {I : Nat → Prop} {w : World} {π : Nat → Nat} {i : Nat} {b : Box} (h : BoxRep ρ I w (π i) (b.ren π)) : BoxRep (fun i => ρ (π i)) I w i b := by
  cases b with
  | var T cs => obtain ⟨g, us, h1, h2, h3⟩ := h; exact ⟨g, us, h1, h2, RepAs.ren π true cs _ h3⟩
  | row e sz es => exact h
  | frz sz es => exact h
  | dead => trivial
theorem Forget.mem {l : List (Nat × Nat)} {s s' : St} (h : Forget l s s') {C : Ctx} {ρ : Nat → Value} {I : Nat → Prop} {w : World} (hm : Mem C s.β ρ I w) : Mem C s'.β (fun i => ρ (renOf l i)) I w where
  os := hm.os
  tape := hm.tape
  output := hm.output
  size := hm.size
  frame := hm.frame
  imm := hm.imm
  new := hm.new
  box := fun id b hb => BoxRep.ren (hm.box _ _ (keepB_look h.boxes hb))
  own := fun id b g hb hl hg => hm.own _ _ g (keepB_look h.boxes hb) (by rw [live_ren]; exact hl) hg
  inj := fun i j b b' g hb hb' hl hl' hg hg' => onceB_inj h.once (look_mem hb) (look_mem hb') (hm.inj _ _ _ _ g (keepB_look h.boxes hb) (keepB_look h.boxes hb') (by rw [live_ren]; exact hl) (by rw [live_ren]; exact hl') hg hg')
  clo := fun id b hb => inBb_look h.inB hb
  gl := hm.gl
theorem Forget.fr {l : List (Nat × Nat)} {s s' : St} (h : Forget l s s') {C : Ctx} {ρ : Nat → Value} {I : Nat → Prop} {w : World} {a : Act} (hf : Fr C s.σ s.β ρ I w a) : Fr C s'.σ s'.β (fun i => ρ (renOf l i)) I w a :=
  ⟨hf.defers, hf.size, hf.keep, fun t v ht => by
    obtain ⟨u, hu, hs⟩ := keepS_look h.slots ht
    obtain ⟨h1, _, h3⟩ := hf.val t _ hu
    exact ⟨h1, inBs_look h.inS ht, RepA.ren _ v _ (hs _ _ _ _ h3)⟩⟩

/-- The state s stands for this frame and this world. -/
def At (C : Ctx) (s : St) (a : Act) (w : World) : Prop := ∃ ρ I, Mem C s.β ρ I w ∧ Fr C s.σ s.β ρ I w a
theorem At.forget {C : Ctx} {s s' : St} {a : Act} {w : World} {l : List (Nat × Nat)} (h : At C s a w) (hf : Forget l s s') : At C s' a w := by
  obtain ⟨ρ, I, h1, h2⟩ := h
  exact ⟨_, I, hf.mem h1, hf.fr h2⟩
/-- Whatever s stands for, s' stands for. -/
def Ent (s s' : St) : Prop := ∀ (C : Ctx) (a : Act) (w : World), At C s a w → At C s' a w
theorem Ent.refl (s : St) : Ent s s := fun _ _ _ h => h
theorem Ent.trans {s s' s2 : St} (h : Ent s s') (h2 : Ent s' s2) : Ent s s2 := fun C a w ha => h2 C a w (h C a w ha)
theorem Ent.of_forget {s s' : St} (l : List (Nat × Nat)) (h : Forget l s s') : Ent s s' := fun _ _ _ ha => ha.forget h
def afterE (K : St → Prop) (Q : Exit → St → Prop) : Exit → St → Prop
  | .normal, s => K s
  | e, s => Q e s
def blockE (id : Nat) (Q : Exit → St → Prop) : Exit → St → Prop
  | .exit i, s => if i = id then Q .normal s else Q (.exit i) s
  | e, s => Q e s
def lift (C : Ctx) (Q : Exit → St → Prop) : Exit → Act → World → Prop := fun e a w => ∃ s, Q e s ∧ At C s a w
def codeOk (K : Nat → Bool) (N : Nat) : Code → Bool
  | .region _ ops _ => dstsOk K N ops.toList
  | .seq a b => codeOk K N a && codeOk K N b
  | .cond _ a b => codeOk K N a && codeOk K N b
  | .block _ c => codeOk K N c
  | .loop c => codeOk K N c
  | .scope c => codeOk K N c
  | _ => true
def jumpE (l : Nat) (K : St → Prop) (Q : Exit → St → Prop) : Exit → St → Prop
  | .goto l', s => l' = l ∧ K s
  | e, s => Q e s
def SemWP (P : Program) (c : Code) (Q : Exit → St → Prop) (s : St) : Prop := ∀ (C : Ctx) (a : Act) (w : World), codeOk C.K C.N c = true → At C s a w → c.wp P (lift C Q) a w
/-- What must hold of a state for a body to end well. -/
def AW (P : Program) : Code → (Exit → St → Prop) → St → Prop
  | .skip, Q, s => Q .normal s
  | .region _ ops false, Q, s => runP P ops.toList ops.toList s.σ s.β fun σ β => Q .normal ⟨σ, β⟩
  | .region _ ops true, Q, s => runD P ops.toList ops.toList s.σ s.β [] fun σ β => Q .normal ⟨σ, β⟩
  | .seq a b, Q, s => AW P a (afterE (AW P b Q) Q) s
  | .cond c a b, Q, s => ∃ x, ev s.σ c = .d (bD x) ∧ (x = true → AW P a Q s) ∧ (x = false → AW P b Q s)
  | .block id c, Q, s => AW P c (blockE id Q) s
  | .loop c, Q, s => ∃ I : Nat → St → Prop, (∃ n s1, Ent s s1 ∧ I n s1) ∧ ∀ n s1, I n s1 → AW P c (afterE (fun s2 => ∃ m s3, m < n ∧ Ent s2 s3 ∧ I m s3) Q) s1
  | .exit id, Q, s => Q (.exit id) s
  | .label _, Q, s => Q .normal s
  | .ret, Q, s => Q .ret s
  | .goto l, Q, s => Q (.goto l) s
  | .scope c, Q, s => ∃ (l : Nat) (rest : Code) (J : Nat → St → Prop), findLabel c l = some rest ∧ SemWP P c (jumpE l (fun s2 => ∃ m s3, Ent s2 s3 ∧ J m s3) Q) s ∧ ∀ n s1, J n s1 → SemWP P rest (jumpE l (fun s2 => ∃ m s3, m < n ∧ Ent s2 s3 ∧ J m s3) Q) s1
  | _, _, _ => False
theorem findLabel_ok {K : Nat → Bool} {N l : Nat} : ∀ {c rest : Code}, findLabel c l = some rest → codeOk K N c = true → codeOk K N rest = true := by
  intro c
  induction c with
  | seq a b iha ihb =>
    intro rest h hc
    simp only [codeOk, Bool.and_eq_true] at hc
    unfold findLabel at h
    split at h
    · rename_i r hr
      injection h with h; subst h
      simp only [codeOk, Bool.and_eq_true]
      exact ⟨iha hr hc.1, hc.2⟩
    · exact ihb h hc.2
  | label l' =>
    intro rest h hc
    unfold findLabel at h
    split at h
    · injection h with h; subst h; rfl
    · cases h
  | _ => intro rest h hc; unfold findLabel at h; cases h
theorem scope_sound {P : Program} {C : Ctx} {c rest : Code} (l : Nat) (J : Nat → St → Prop) {Q : Exit → St → Prop} {s : St} (hf : findLabel c l = some rest) (hc : codeOk C.K C.N c = true)
    (h1 : SemWP P c (jumpE l (fun s2 => ∃ m s3, Ent s2 s3 ∧ J m s3) Q) s) (h2 : ∀ n s1, J n s1 → SemWP P rest (jumpE l (fun s2 => ∃ m s3, m < n ∧ Ent s2 s3 ∧ J m s3) Q) s1) {a : Act} {w : World} (ha : At C s a w) : (Code.scope c).wp P (lift C Q) a w := by
  refine wp_scope_jumps l (fun a w => ∃ n s, J n s ∧ At C s a w) (fun a w => leastOf fun n => ∃ s, J n s ∧ At C s a w) hf ?_ ?_
  · refine wp_mono (h1 C a w hc ha) fun e a' w' hq => ?_
    obtain ⟨s', hq, ha'⟩ := hq
    cases e with
    | goto l' =>
      obtain ⟨rfl, m, s3, he, hJ⟩ := hq
      exact ⟨rfl, m, s3, hJ, he _ _ _ ha'⟩
    | _ => exact ⟨s', hq, ha'⟩
  · intro a w hJ
    obtain ⟨⟨s1, hJ1, ha1⟩, _⟩ := leastOf_spec hJ
    refine wp_mono (h2 _ s1 hJ1 C a w (findLabel_ok hf hc) ha1) fun e a' w' hq => ?_
    obtain ⟨s', hq, ha'⟩ := hq
    cases e with
    | goto l' =>
      obtain ⟨rfl, m, s3, hlt, he, hJ'⟩ := hq
      have h3 : ∃ n, ∃ s, J n s ∧ At C s a' w' := ⟨m, s3, hJ', he _ _ _ ha'⟩
      exact ⟨rfl, h3, Nat.lt_of_le_of_lt ((leastOf_spec h3).2 m ⟨s3, hJ', he _ _ _ ha'⟩) hlt⟩
    | _ => exact ⟨s', hq, ha'⟩
theorem aw_sound {P : Program} (hmx : P.follows .mixedOrders = true) {C : Ctx} : ∀ (c : Code) (Q : Exit → St → Prop) (s : St) (a : Act) (w : World), codeOk C.K C.N c = true → AW P c Q s → At C s a w → c.wp P (lift C Q) a w
  | .skip, Q, s, a, w, _, h, ha => wp_skip ⟨s, h, ha⟩
  | .region id ops false, Q, s, a, w, hc, h, ha => by
    obtain ⟨ρ, I, hm, hf⟩ := ha
    refine wp_region_list ?_
    have := runP_sound (C := C) (Q := lift C Q) (fun σ β ρ I w a hk hm hf => ⟨⟨σ, β⟩, hk, ρ, I, hm, hf⟩) ops.toList s.σ s.β ρ I w a hc h hm hf
    simpa using this
  | .region id ops true, Q, s, a, w, hc, h, ha => by
    obtain ⟨ρ, I, hm, hf⟩ := ha
    have := runD_sound hmx (C := C) (Q := lift C Q) (id := id) (fun σ β ρ I w a hk hm hf => ⟨⟨σ, β⟩, hk, ρ, I, hm, hf⟩) hc h hm hf
    simpa using this
  | .seq x y, Q, s, a, w, hc, h, ha => by
    simp only [codeOk, Bool.and_eq_true] at hc
    refine wp_seq ?_
    refine wp_mono (aw_sound hmx x _ s a w hc.1 h ha) fun e a' w' hq => ?_
    obtain ⟨s', hq, ha'⟩ := hq
    cases e with
    | normal => exact aw_sound hmx y Q s' a' w' hc.2 hq ha'
    | _ => exact ⟨s', hq, ha'⟩
  | .cond c x y, Q, s, a, w, hc, ⟨b, hb, h1, h2⟩, ha => by
    simp only [codeOk, Bool.and_eq_true] at hc
    obtain ⟨ρ, I, hm, hf⟩ := ha
    have hv := (hf.ev hm c).2
    rw [hb] at hv
    refine wp_cond (t := b) (repA_sc hv) ?_
    cases b with
    | true => exact aw_sound hmx x Q s a w hc.1 (h1 rfl) ⟨ρ, I, hm, hf⟩
    | false => exact aw_sound hmx y Q s a w hc.2 (h2 rfl) ⟨ρ, I, hm, hf⟩
  | .block id c, Q, s, a, w, hc, h, ha => by
    refine wp_block ?_
    refine wp_mono (aw_sound hmx c _ s a w hc h ha) fun e a' w' hq => ?_
    obtain ⟨s', hq, ha'⟩ := hq
    cases e with
    | exit i =>
      by_cases hi : i = id
      · simp only [blockE, hi, if_true] at hq
        simp only [Exit.inBlock, hi, if_true]
        exact ⟨s', hq, ha'⟩
      · simp only [blockE, if_neg hi] at hq
        simp only [Exit.inBlock, if_neg hi]
        exact ⟨s', hq, ha'⟩
    | _ => exact ⟨s', hq, ha'⟩
  | .loop c, Q, s, a, w, hc, ⟨I, ⟨n, s1, hfg, hI⟩, hr⟩, ha => by
    have hgen : ∀ n s1, I n s1 → ∀ a w, At C s1 a w → (Code.loop c).wp P (lift C Q) a w := by
      intro n0 s0 hI0 a0 w0 ha0
      refine wp_loop_ghost (fun m a w => ∃ s, I m s ∧ At C s a w) n0 ⟨s0, hI0, ha0⟩ fun m a w ⟨s, hI, ha⟩ => ?_
      refine wp_mono (aw_sound hmx c _ s a w hc (hr m s hI) ha) fun e a' w' hq => ?_
      obtain ⟨s', hq, ha'⟩ := hq
      cases e with
      | normal =>
        obtain ⟨m', s3, hlt, hfg', hI'⟩ := hq
        exact ⟨m', hlt, s3, hI', hfg' _ _ _ ha'⟩
      | _ => exact ⟨s', hq, ha'⟩
    exact hgen n s1 hI a w (hfg _ _ _ ha)
  | .exit id, Q, s, a, w, _, h, ha => wp_exit ⟨s, h, ha⟩
  | .label l, Q, s, a, w, _, h, ha => wp_label ⟨s, h, ha⟩
  | .ret, Q, s, a, w, _, h, ha => wp_ret ⟨s, h, ha⟩
  | .rangeFunc .., _, _, _, _, _, h, _ => h.elim
  | .scope c, Q, s, a, w, hc, ⟨l, rest, J, hf, h1, h2⟩, ha => scope_sound l J hf hc h1 h2 ha
  | .goto l, Q, s, a, w, _, h, ha => wp_goto ⟨s, h, ha⟩
  | .refuse .., _, _, _, _, _, h, _ => h.elim
theorem aw_scope {P : Program} (hmx : P.follows .mixedOrders = true) {c rest : Code} {Q : Exit → St → Prop} {s : St} (l : Nat) (J : Nat → St → Prop) (hf : findLabel c l = some rest) (h1 : AW P c (jumpE l (fun s2 => ∃ m s3, Ent s2 s3 ∧ J m s3) Q) s)
    (h2 : ∀ n s1, J n s1 → AW P rest (jumpE l (fun s2 => ∃ m s3, m < n ∧ Ent s2 s3 ∧ J m s3) Q) s1) : AW P (.scope c) Q s :=
  ⟨l, rest, J, hf, fun C a w hc ha => aw_sound hmx c _ s a w hc h1 ha, fun n s1 hJ C a w hc ha => aw_sound hmx rest _ s1 a w hc (h2 n s1 hJ) ha⟩
theorem SemWP.ent {P : Program} {c : Code} {Q : Exit → St → Prop} {s s' : St} (h : SemWP P c Q s') (he : Ent s s') : SemWP P c Q s := fun C a w hc ha => h C a w hc (he _ _ _ ha)
theorem SemWP.mono {P : Program} {c : Code} {Q Q' : Exit → St → Prop} {s : St} (h : SemWP P c Q s) (hq : ∀ e s, Q e s → Q' e s) : SemWP P c Q' s := fun C a w hc ha => wp_mono (h C a w hc ha) fun e a w ⟨s, h1, h2⟩ => ⟨s, hq e s h1, h2⟩
/-- A body that runs up to a label, and jumps back to it. -/
theorem aw_scope2 {P : Program} (hmx : P.follows .mixedOrders = true) {A X : Code} {Q : Exit → St → Prop} {s : St} (l : Nat) (J : Nat → St → Prop) (hA : findLabel A l = none) (h1 : AW P A (afterE (fun s2 => ∃ m s3, Ent s2 s3 ∧ J m s3) (jumpE l (fun s2 => ∃ m s3, Ent s2 s3 ∧ J m s3) Q)) s)
    (h2 : ∀ n s1, J n s1 → AW P X (jumpE l (fun s2 => ∃ m s3, m < n ∧ Ent s2 s3 ∧ J m s3) Q) s1) : AW P (.scope (.seq A (.seq (.label l) X))) Q s := by
  have hmono : ∀ n e s, jumpE l (fun s2 => ∃ m s3, m < n ∧ Ent s2 s3 ∧ J m s3) Q e s → jumpE l (fun s2 => ∃ m s3, Ent s2 s3 ∧ J m s3) Q e s := fun n e s h => by
    cases e with
    | goto l' => obtain ⟨e1, m, s3, _, h3, h4⟩ := h; exact ⟨e1, m, s3, h3, h4⟩
    | _ => exact h
  refine ⟨l, .seq .skip X, J, ?_, fun C a w hc ha => ?_, fun n s1 hJ C a w hc ha => ?_⟩
  · unfold findLabel
    rw [hA]
    show findLabel (.seq (.label l) X) l = _
    unfold findLabel
    have : findLabel (.label l) l = some .skip := by unfold findLabel; simp
    rw [this]
  · simp only [codeOk, Bool.and_eq_true] at hc
    refine wp_seq ?_
    refine wp_mono (aw_sound hmx A _ s a w hc.1 h1 ha) fun e a' w' hq => ?_
    obtain ⟨s', hq, ha'⟩ := hq
    cases e with
    | normal =>
      obtain ⟨m, s3, he, hJ⟩ := hq
      refine wp_seq (wp_label ?_)
      exact wp_mono (aw_sound hmx X _ s3 a' w' hc.2.2 (h2 m s3 hJ) (he _ _ _ ha')) fun e a w ⟨s, k1, k2⟩ => ⟨s, hmono m e s k1, k2⟩
    | _ => exact ⟨s', hq, ha'⟩
  · simp only [codeOk, Bool.true_and] at hc
    refine wp_seq (wp_skip ?_)
    exact aw_sound hmx X _ s1 a w hc (h2 n s1 hJ) ha
end Go.Proofs.YtfkkamkhjbfjmaaDoor
