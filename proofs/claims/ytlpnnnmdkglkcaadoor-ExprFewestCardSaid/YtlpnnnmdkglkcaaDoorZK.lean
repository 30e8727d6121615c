/-
  The pure layer: functions that panic. No condition.
-/
import Derived.Test.YtlpnnnmdkglkcaaDoorZPlDef
set_option linter.unusedSimpArgs false
set_option linter.unusedVariables false
namespace Go.Proofs.YtlpnnnmdkglkcaaDoor
open Go.RowKit

def Pans (P : Program) (op : Op) (ty : TypeId) (e : Operand → A) (β : Bx) (chain : List PanicEntry) (ups : Bx) (rd : List Nat) : Prop :=
  ∀ (C : Ctx) (γ : Bx), qCN β γ (rd ++ ups.map (·.1)) → ∀ (ρ : Nat → Value) (I : Nat → Prop) (w : World), Mem C γ ρ I w → ∀ a : Act,
    (∀ x ∈ op.operands.toList, (e x).inB γ ∧ RepA ρ I w (e x) (a.eval x)) → ∀ o : Oper, o.op = op → o.type = ty → ∀ (K : Act → World → Prop) (Q : Exit → Act → World → Prop),
      (∀ ρ' I' w', Mem C (ups ++ γ) ρ' I' w' → Ext γ ρ I w ρ' I' w' → Q (.panic chain) a w') → Oper.wp P o a w K Q
theorem callX_mem {β : Bx} {L al : List A} {V R V' R' : Bx} (ren ren' : List (Nat × Nat)) {ups : Bx} {rd : List Nat} (has : L.map (frzX β) = A.rens (qAL ren) al)
    (hb : qEt (qAL ren) (qBU β L ++ β) (V ++ R)) (ho : qDo (qAL ren) (V ++ R) = true) (hin : inBb (V ++ R) (V ++ R))
    (hkeys : V'.map (·.1) = V.map (·.1)) (hvv : V'.all (fun p => qAL ren' p.1 == qAL ren p.1) = true) (hlv : V.all (fun p => p.2.live) = true)
    (ho' : qDo (qAL ren') (V' ++ R') = true) (hfresh : R'.all (fun p => (look (qAL ren' p.1) (qBU β L ++ β)).isNone) = true)
    (hups : ups = renB (qAL ren') (V' ++ R') ++ qCo (qAL ren) R ++ qBU β L) (hrd : rd = (V ++ R).map (fun p => qAL ren p.1) ++ L.flatMap idsV)
    {C : Ctx} {γ : Bx} (hag : qCN β γ (rd ++ ups.map (·.1))) {ρ : Nat → Value} {I : Nat → Prop} {w : World} (hm : Mem C γ ρ I w) {us : List Value} (h2 : A.insB γ L) (h3 : qBj ρ I w false L us) :
    ∃ I1, Mem (qDE (V ++ R) (fun i => ρ (qAL ren i)) I1 w) (V ++ R) (fun i => ρ (qAL ren i)) I1 w ∧ qBj (fun i => ρ (qAL ren i)) I1 w false al us ∧
      ∀ (w' : World) (ρ' : Nat → Value) (I' : Nat → Prop), (∀ p ∈ V', ρ' p.1 = ρ (qAL ren p.1)) → Mem (qDE (V ++ R) (fun i => ρ (qAL ren i)) I1 w) (V' ++ R') ρ' I' w' →
        ∃ ρ2 I2, Mem C (ups ++ γ) ρ2 I2 w' ∧ Ext γ ρ I w ρ2 I2 w' ∧ ExtI I' w' I2 w' := by
  subst hups hrd
  obtain ⟨e1, e2⟩ := qD5 (fun id hid => hag id (List.mem_append_left _ (List.mem_append_right _ hid)))
  obtain ⟨I1, m1, x1, b1, r1, _⟩ := qCR _ _ γ I hm h2 h3
  rw [e1, has] at r1
  rw [e2] at m1
  generalize hU : qBU β L = U at *
  have hagU : ∀ id, look id γ = look id β → look id (U ++ γ) = look id (U ++ β) := fun id h => by rw [qAI, qAI, h]
  have hkb : ∀ {i : Nat} {b : Box}, look i (V ++ R) = some b → look (qAL ren i) (U ++ γ) = some (b.ren (qAL ren)) := fun {i b} hi => by
    rw [hagU _ (hag _ (List.mem_append_left _ (List.mem_append_left _ (List.mem_map.2 ⟨(i, b), qBn hi, rfl⟩))))]
    exact qCw hb hi
  have hfr : ∀ p ∈ R', look (qAL ren' p.1) (U ++ γ) = none := fun p hp => by
    have h0 := List.all_eq_true.1 hfresh p hp
    have h0 : look (qAL ren' p.1) (U ++ β) = none := by simpa using h0
    have hmem : qAL ren' p.1 ∈ (renB (qAL ren') (V' ++ R') ++ qCo (qAL ren) R ++ U).map (·.1) := by
      rw [List.map_append, List.map_append]
      refine List.mem_append_left _ (List.mem_append_left _ ?_)
      exact List.mem_map.2 ⟨(qAL ren' p.1, p.2.ren (qAL ren')), List.mem_map.2 ⟨p, List.mem_append_right _ hp, rfl⟩, rfl⟩
    rw [hagU _ (hag _ (List.mem_append_right _ hmem))]
    exact h0
  have hmc : Mem (qDE (V ++ R) (fun i => ρ (qAL ren i)) I1 w) (V ++ R) (fun i => ρ (qAL ren i)) I1 w :=
    { os := rfl, tape := rfl, output := rfl, size := Nat.le_refl _, frame := fun _ _ _ => rfl, imm := m1.imm, new := fun g hg => .inl hg,
      box := fun i b hi => qCj.ren (m1.box _ _ (hkb hi)),
      own := fun i b g hi hl hg => by
        obtain ⟨q1, q2, _⟩ := m1.own _ _ g (hkb hi) (by rw [qBG]; exact hl) hg
        exact ⟨q1, q2, .inr ⟨i, b, hi, hl, hg⟩⟩,
      inj := fun i j b b' g hi hj hl hl' hg hg' => qCU ho (qBn hi) (qBn hj) (m1.inj _ _ _ _ g (hkb hi) (hkb hj) (by rw [qBG]; exact hl) (by rw [qBG]; exact hl') hg hg'),
      clo := fun i b hi => qDW hin hi,
      gl := m1.gl }
  refine ⟨I1, hmc, qBj.ren (qAL ren) false al _ r1, fun w' ρ' I' hρ hm' => ?_⟩
  let fresh : Nat → Prop := fun i => ∃ p ∈ R', qAL ren' p.1 = i
  have hdec : ∀ i, fresh i ∨ ¬ fresh i := fun i => Classical.em _
  -- where each box lies qEv the call
  obtain ⟨ρ2, hρ2, hρ3⟩ : ∃ ρ2 : Nat → Value, (∀ p ∈ R', ρ2 (qAL ren' p.1) = ρ' p.1) ∧ ∀ i, ¬ fresh i → ρ2 i = ρ i := by
    classical
    refine ⟨fun i => if h : fresh i then ρ' h.choose.1 else ρ i, fun p hp => ?_, fun i hi => dif_neg hi⟩
    have hf : fresh (qAL ren' p.1) := ⟨p, hp, rfl⟩
    simp only [dif_pos hf]
    obtain ⟨hq1, hq2⟩ := hf.choose_spec
    exact congrArg ρ' (qCU ho' (b := hf.choose.2) (b' := p.2) (List.mem_append_right _ hq1) (List.mem_append_right _ hp) hq2)
  have hvk : ∀ {i : Nat} {b : Box}, look i (V' ++ R') = some b → (i, b) ∈ V' ∨ (i, b) ∈ R' := fun {i b} h => List.mem_append.1 (qBn h)
  have hvar : ∀ {i : Nat} {b : Box}, (i, b) ∈ V' → qAL ren' i = qAL ren i ∧ ∃ b0, look i (V ++ R) = some b0 ∧ b0.live = true := fun {i b} h => by
    refine ⟨by simpa using List.all_eq_true.1 hvv _ h, ?_⟩
    have hm0 : i ∈ V.map (·.1) := by rw [← hkeys]; exact List.mem_map.2 ⟨_, h, rfl⟩
    obtain ⟨b0, hb0⟩ := qBF hm0
    refine ⟨b0, by rw [qAI, hb0]; rfl, List.all_eq_true.1 hlv _ (qBn hb0)⟩
  have hnf : ∀ {i : Nat} {b : Box}, (i, b) ∈ V' → ¬ fresh (qAL ren i) := fun {i b} h hf => by
    obtain ⟨p, hp, hpe⟩ := hf
    obtain ⟨_, b0, hb0, _⟩ := hvar h
    have := hfr p hp
    rw [hpe, hkb hb0] at this
    cases this
  have hval : ∀ {i : Nat} {b : Box}, look i (V' ++ R') = some b → ρ2 (qAL ren' i) = ρ' i := fun {i b} h => by
    rcases hvk h with h | h
    · obtain ⟨q1, _⟩ := hvar h
      rw [q1, hρ3 _ (hnf h)]
      exact (hρ (i, b) h).symm
    · exact hρ2 (i, b) h
  let I2 : Nat → Prop := fun g => I1 g ∨ I' g
  have hPB : ∀ g, PBof (V ++ R) (fun i => ρ (qAL ren i)) g → ∃ id b, look id (U ++ γ) = some b ∧ b.live = true ∧ blk (ρ id) = some g ∧ g < w.heap.size ∧ ¬ I1 g ∧ (C.w0.heap.size ≤ g ∨ C.PB g) ∧ ∃ i b0, look i (V ++ R) = some b0 ∧ qAL ren i = id := fun g ⟨i, b, hi, hl, hg⟩ => by
    obtain ⟨q1, q2, q3⟩ := m1.own _ _ g (hkb hi) (by rw [qBG]; exact hl) hg
    exact ⟨_, _, hkb hi, by rw [qBG]; exact hl, hg, q1, q2, q3, i, b, hi, rfl⟩
  have hupsL : ∀ {i : Nat}, (∃ b, look i (V ++ R) = some b) → look (qAL ren i) (renB (qAL ren') (V' ++ R') ++ qCo (qAL ren) R) ≠ none := fun {i} ⟨b, hb⟩ => by
    rw [qAI] at hb
    rw [qAI]
    cases hv : look i V with
    | some b1 =>
      have hm0 : i ∈ V'.map (·.1) := by rw [hkeys]; exact List.mem_map.2 ⟨_, qBn hv, rfl⟩
      obtain ⟨b2, hb2⟩ := qBF hm0
      obtain ⟨q1, _⟩ := hvar (qBn hb2)
      obtain ⟨b3, hb3⟩ := qCn (π := qAL ren') (β := V' ++ R') (i := i) (b := b2) (by rw [qAI, hb2]; rfl)
      rw [← q1, hb3]; simp
    | none =>
      rw [hv] at hb
      have hb : look i R = some b := by simpa using hb
      obtain ⟨b2, hb2⟩ := qBF (l := qCo (qAL ren) R) (t := qAL ren i) (List.mem_map.2 ⟨(qAL ren i, .dead), List.mem_map.2 ⟨(i, b), qBn hb, rfl⟩, rfl⟩)
      rw [hb2]
      cases look (qAL ren i) (renB (qAL ren') (V' ++ R')) <;> simp
  have hx2 : Ext (U ++ γ) ρ I1 w ρ2 I2 w' := ⟨⟨fun g h => .inl h, fun g h => by
    refine hm'.frame g (m1.imm g h) fun hp => ?_
    obtain ⟨_, _, _, _, _, _, q, _⟩ := hPB g hp
    exact q h⟩, fun i hi => hρ3 i fun ⟨p, hp, hpe⟩ => hi (by rw [← hpe]; exact hfr p hp)⟩
  have hmono : ExtI I' w' I2 w' := ⟨fun g h => .inr h, fun _ _ => rfl⟩
  have hold0 : ∀ id b g, look id (U ++ γ) = some b → look id (renB (qAL ren') (V' ++ R') ++ qCo (qAL ren) R) = none → b.live = true → blk (ρ id) = some g → ¬ PBof (V ++ R) (fun i => ρ (qAL ren i)) g := fun id b g h1 h2 h3 h4 hp => by
    obtain ⟨id2, b2, q1, q2, q3, _, _, _, i, b0, q4, q5⟩ := hPB g hp
    have := m1.inj id id2 b b2 g h1 q1 h3 q2 h4 q3
    rw [this, ← q5] at h2
    exact hupsL ⟨b0, q4⟩ h2
  have hlive : ∀ {i : Nat} {b : Box}, look i (V' ++ R') = some b → b.live = true → ∀ g, blk (ρ2 (qAL ren' i)) = some g → g < w'.heap.size ∧ ¬ I2 g ∧ (C.w0.heap.size ≤ g ∨ C.PB g) ∧ (w.heap.size ≤ g ∨ PBof (V ++ R) (fun i => ρ (qAL ren i)) g) := fun {i b} h hl g hg => by
    rw [hval h] at hg
    obtain ⟨q1, q2, q3⟩ := hm'.own i b g h hl hg
    refine ⟨q1, fun h0 => ?_, ?_, q3⟩
    · rcases h0 with h0 | h0
      · rcases q3 with q3 | q3
        · exact absurd (m1.imm g h0) (by have : w.heap.size ≤ g := q3; omega)
        · obtain ⟨_, _, _, _, _, _, q, _⟩ := hPB g q3
          exact q h0
      · exact q2 h0
    · rcases q3 with q3 | q3
      · exact .inl (Nat.le_trans m1.size q3)
      · obtain ⟨_, _, _, _, _, _, _, q, _⟩ := hPB g q3
        exact q
  have hmem := m1.upd (renB (qAL ren') (V' ++ R') ++ qCo (qAL ren) R) hx2 hm'.os hm'.tape hm'.output hm'.size
    (fun g h => by
      rcases h with h | h
      · exact Nat.lt_of_lt_of_le (m1.imm g h) hm'.size
      · exact hm'.imm g h)
    (fun g h => by
      rcases h with h | h
      · exact .inl h
      · rcases hm'.new g h with h | h | h
        · exact .inl h
        · exact .inr (.inl (Nat.le_trans m1.size h))
        · obtain ⟨_, _, _, _, _, _, _, q, _⟩ := hPB g h
          exact .inr q)
    (PBof (V ++ R) (fun i => ρ (qAL ren i))) (fun k hk hp => hm'.frame k hk hp) (fun k hk => by
      obtain ⟨_, _, _, _, _, _, _, q, _⟩ := hPB k hk
      exact q)
    (fun id b g h1 h2 h3 h4 => by
      refine ⟨hold0 id b g h1 h2 h3 h4, fun h => ?_⟩
      obtain ⟨q1, q2, _⟩ := m1.own id b g h1 h3 h4
      rcases h with h | h
      · exact q2 h
      · rcases hm'.new g h with h | h | h
        · exact q2 h
        · exact absurd q1 (by have : w.heap.size ≤ g := h; omega)
        · exact hold0 id b g h1 h2 h3 h4 h)
    (fun id b h => by
      rw [qAI] at h
      cases hv : look id (renB (qAL ren') (V' ++ R')) with
      | none =>
        rw [hv] at h
        obtain ⟨rfl, _⟩ := qC6 (h : look id (qCo (qAL ren) R) = some b)
        exact ⟨trivial, trivial, fun h => by cases h⟩
      | some b1 =>
        rw [hv] at h
        have h : b1 = b := by simpa using h
        subst h
        obtain ⟨i, b0, q1, q2, rfl, rfl⟩ := qCD ho' hv
        refine ⟨?_, ?_, fun hl g hg => ?_⟩
        · have hb1 := hm'.box i b0 q1
          have hb2 : qCj (fun i => ρ2 (qAL ren' i)) I2 w' i b0 := by
            have hcl := hm'.clo i b0 q1
            cases b0 with
            | var T cs =>
              obtain ⟨g, us, z1, z2, z3⟩ := hb1
              refine ⟨g, us, (hval q1).trans z1, z2, qBj.ext (β := V' ++ R') ⟨hmono, fun j hj => ?_⟩ true cs _ hcl z3⟩
              obtain ⟨bj, hbj⟩ := Option.ne_none_iff_exists'.1 hj
              exact hval hbj
            | row E sz es =>
              obtain ⟨xs, z1, z2⟩ := hb1
              have e0 := hval q1
              refine ⟨xs, ?_, RepR.ext hmono sz es xs z2⟩
              show w'.ownsRow 0 E sz (ρ2 (qAL ren' i)) es.length xs
              rw [e0]; exact z1
            | frz sz es =>
              show RepD I2 w' (.sl sz es) (ρ2 (qAL ren' i))
              rw [hval q1]; exact RepD.ext hmono _ _ hb1
            | itr s pos =>
              obtain ⟨g, z1, z2⟩ := hb1
              exact ⟨g, (hval q1).trans z1, z2⟩
            | dead => trivial
          exact qCj.unren hb2
        · have hd : ∀ j, dom (V' ++ R') j → dom ((renB (qAL ren') (V' ++ R') ++ qCo (qAL ren) R) ++ (U ++ γ)) (qAL ren' j) := fun j hj => by
            obtain ⟨bj, hbj⟩ := Option.ne_none_iff_exists'.1 hj
            obtain ⟨b3, hb3⟩ := qCn (π := qAL ren') hbj
            unfold dom
            rw [qAI, qAI, hb3]; simp
          have hcl := hm'.clo i b0 q1
          cases b0 with
          | var T cs => exact A.insB_ren hd cs hcl
          | _ => trivial
        · rw [qBG] at hl
          obtain ⟨z1, z2, z3, z4⟩ := hlive q1 hl g hg
          refine ⟨z1, z2, z3, fun id2 b2 y1 y2 y3 y4 => ?_⟩
          rcases z4 with z4 | z4
          · exact absurd (m1.own id2 b2 g y1 y3 y4).1 (by omega)
          · exact hold0 id2 b2 g y1 y2 y3 y4 z4)
    (fun i j b b' g h h' hl hl' hg hg' => by
      have hsplit : ∀ {id : Nat} {b : Box}, look id (renB (qAL ren') (V' ++ R') ++ qCo (qAL ren) R) = some b → b.live = true → look id (renB (qAL ren') (V' ++ R')) = some b := fun {id b} h hl => by
        rw [qAI] at h
        cases hv : look id (renB (qAL ren') (V' ++ R')) with
        | none =>
          rw [hv] at h
          obtain ⟨rfl, _⟩ := qC6 (h : look id (qCo (qAL ren) R) = some b)
          cases hl
        | some b1 => rw [hv] at h; simpa using h
      obtain ⟨i0, b0, q1, _, rfl, rfl⟩ := qCD ho' (hsplit h hl)
      obtain ⟨j0, b0', q2, _, rfl, rfl⟩ := qCD ho' (hsplit h' hl')
      rw [hval q1] at hg
      rw [hval q2] at hg'
      rw [qBG] at hl hl'
      rw [hm'.inj i0 j0 b0 b0' g q1 q2 hl hl' hg hg'])
  rw [← List.append_assoc] at hmem
  exact ⟨ρ2, I2, hmem, x1.trans hx2 (fun i hi => qBy hi), hmono⟩

theorem Mem.deads {C : Ctx} {ρ' : Nat → Value} {I' : Nat → Prop} {w' : World} (h : Mem C [] ρ' I' w') {V : Bx} (hV : ∀ i b, look i V = some b → b = .dead) (ρ : Nat → Value) : Mem C V ρ I' w' where
  os := h.os
  tape := h.tape
  output := h.output
  size := h.size
  frame := h.frame
  imm := h.imm
  new := h.new
  box i b hi := by rw [hV i b hi]; trivial
  own i b g hi hl := by rw [hV i b hi] at hl; cases hl
  inj i j b b' g hi hj hl := by rw [hV i b hi] at hl; cases hl
  clo i b hi := by rw [hV i b hi]; trivial
  gl := h.gl
theorem Mem.none {C : Ctx} {β : Bx} {ρ : Nat → Value} {I : Nat → Prop} {w : World} (h : Mem C β ρ I w) : Mem C [] ρ I w where
  os := h.os
  tape := h.tape
  output := h.output
  size := h.size
  frame := h.frame
  imm := h.imm
  new := h.new
  box i b hi := by cases hi
  own i b g hi := by cases hi
  inj i j b b' g hi := by cases hi
  clo i b hi := by cases hi
  gl := h.gl
theorem At.none {C : Ctx} {s : St} {a : Act} {w : World} (h : At C s a w) : At C ⟨[], []⟩ a w := by
  obtain ⟨ρ, I, hm, hf⟩ := h
  exact ⟨ρ, I, hm.none, hf.defers, hf.size, hf.keep, fun t v ht => by cases ht⟩
structure PN (P : Program) (f : FuncId) (al : List A) (V R : Bx) (chain : List PanicEntry) : Prop where
  enters : qEG P f
  calls : ∀ (ρ : Nat → Value) (I : Nat → Prop) (w : World) (vs : Array Value), Mem (qDE (V ++ R) ρ I w) (V ++ R) ρ I w → A.insB (V ++ R) al → qBj ρ I w false al vs.toList →
    Calls P f vs w fun e w' => e = .panicked chain ∧ ∃ ρ' I', Mem (qDE (V ++ R) ρ I w) [] ρ' I' w'
def deadV (V : Bx) : Bx := V.map fun p => (p.1, .dead)
theorem look_deadV {i : Nat} {b : Box} : ∀ {V : Bx}, look i (deadV V ++ []) = some b → b = .dead
  | [], h => by cases h
  | p :: V, h => by
    have h : (if p.1 = i then some Box.dead else look i (deadV V ++ [])) = some b := h
    split at h
    · injection h with h; exact h.symm
    · exact look_deadV h
def panE (chain : List PanicEntry) : Exit → St → Prop
  | .panic c, _ => c = chain
  | _, _ => False
section
variable {P : Program}
theorem qBt {f : FuncId} {fn : Func} {c : Code} {al : List A} {V R : Bx} {chain : List PanicEntry} (hf : P.funcs[f]? = some fn) (hb : fn.body = some c) (hn : (fn.name == "runtime.NumGoroutine") = false) (hmx : P.follows .mixedOrders = true) (hok : qB8 (fun _ => false) fn.ntmps c = true) (hds : al.length ≤ fn.ntmps)
    (h : AW P c (panE chain) ⟨argA 0 al, V ++ R⟩) : PN P f al V R chain := by
  refine ⟨qCu hf hb hn, fun ρ I w vs hm hin hr => ?_⟩
  refine calls_of_wp hf hb ?_
  have hvl := qBZ hr
  rw [Array.length_toList] at hvl
  have hget : ∀ {i : Nat} {v : A}, al[i]? = some v → ∃ u, RepA ρ I w v u ∧ (vs ++ Array.replicate (fn.ntmps - vs.size) undef).getD i undef = u ∧ i < vs.size := fun {i v} hi => by
    obtain ⟨u, h3, h4, _⟩ := qCe hr hi
    have hlt : i < vs.size := by rw [← Array.length_toList]; exact (List.getElem?_eq_some_iff.1 h3).1
    have h5 : vs[i]? = some u := by simpa using h3
    refine ⟨u, h4, ?_, hlt⟩
    rw [Array.getD_eq_getD_getElem?, Array.getElem?_append_left hlt, h5]; rfl
  let C : Ctx := { w0 := w, PB := PBof (V ++ R) ρ, I0 := I, N := fn.ntmps, K := fun _ => false, args := fun _ => undef }
  have hm' : Mem C (V ++ R) ρ I w := hm.ctx rfl rfl rfl
  have hat : At C ⟨argA 0 al, V ++ R⟩ { tmps := vs ++ Array.replicate (fn.ntmps - vs.size) undef, defers := [] } w := by
    refine ⟨ρ, I, hm', rfl, ?_, fun t ht => (by cases ht), fun t v ht => ?_⟩
    · show (vs ++ Array.replicate (fn.ntmps - vs.size) undef).size = fn.ntmps
      simp; omega
    · obtain ⟨i, h1, h2⟩ := qDn ht
      rw [Nat.zero_add] at h1
      subst h1
      obtain ⟨u, h4, h5, h6⟩ := hget h2
      refine ⟨by show t < fn.ntmps; omega, A.insB_mem hin v (List.mem_of_getElem? h2), ?_⟩
      show RepA ρ I w v ((vs ++ Array.replicate (fn.ntmps - vs.size) undef).getD t undef)
      rw [h5]; exact h4
  refine wp_mono (qBN hmx c _ _ _ w (C := C) hok h hat) fun en a' w' hq => ?_
  obtain ⟨s, hq, ha⟩ := hq
  cases en with
  | panic ch =>
    have hq : ch = chain := hq
    subst hq
    obtain ⟨ρ2, J, hm2, hfr⟩ := ha
    exact ⟨hfr.defers, rfl, ρ2, J, (hm2.none).ctx rfl rfl rfl⟩
  | _ => exact hq.elim
theorem qBl {x : Operand} {args : Array Operand} {ts : Array TypeId} {f : FuncId} {first captured : List A} {al : List A} {V R : Bx} {chain : List PanicEntry} {e : Operand → A} {β : Bx} {ty : TypeId} (ren : List (Nat × Nat)) {ups : Bx} {rd : List Nat}
    (hx : e x = .fn (.func f) first captured) (hpc : PN P f al V R chain) (has : (first ++ args.toList.map e ++ captured).map (frzX β) = A.rens (qAL ren) al)
    (hb : qEt (qAL ren) (qBU β (first ++ args.toList.map e ++ captured) ++ β) (V ++ R)) (ho : qDo (qAL ren) (V ++ R) = true) (hin : inBb (V ++ R) (V ++ R)) (hia : A.insB (V ++ R) al)
    (hlv : V.all (fun p => p.2.live) = true) (ho' : qDo (qAL ren) (deadV V ++ []) = true)
    (hups : ups = renB (qAL ren) (deadV V ++ []) ++ qCo (qAL ren) R ++ qBU β (first ++ args.toList.map e ++ captured)) (hrd : rd = (V ++ R).map (fun p => qAL ren p.1) ++ (first ++ args.toList.map e ++ captured).flatMap idsV) :
    Pans P (.call { callee := .value x, args := args, argTypes := ts }) ty e β chain ups rd := by
  intro C γ hag ρ I w hm a hops o hop hty K Q hK
  obtain ⟨fi, ca, h1, h2, h3⟩ := qDZ hx hops
  obtain ⟨I1, hmc, hre, hnext⟩ := callX_mem (V' := deadV V) (R' := []) ren ren has hb ho hin (by simp [deadV]) (by simp) hlv ho' (by rfl) hups hrd hag hm h2 h3
  unfold Oper.wp
  rw [qEP hpc.enters rfl h1 o hop, Oper.upon_enter]
  refine (hpc.calls _ I1 w _ hmc hia hre).mono fun en w' ⟨he, ρ', I', hm'⟩ => ?_
  subst he
  obtain ⟨ρ2, I2, q1, q2, _⟩ := hnext w' (fun i => ρ (qAL ren i)) I' (fun _ _ => rfl) (hm'.deads (fun i b hi => look_deadV hi) _)
  exact hK ρ2 I2 w' q1 q2
theorem pans_panic {x : Operand} {T : TypeId} {u : Value} {e : Operand → A} {β : Bx} {ty : TypeId} (hx : e x = .d (.sc (.iface T u))) : Pans P (.panic x) ty e β [{ v := .iface T u, recovered := false }] [] [] := by
  intro C γ hag ρ I w hm a hops o hop hty K Q hK
  have hv : a.eval x = .iface T u := by
    have := (hops x (by simp [Op.operands])).2
    rw [hx] at this
    exact qBu this
  unfold Oper.wp
  have hr : (execOp a.eval o).run P w = .halt (.panic (.iface T u)) w := by
    unfold execOp
    rw [hop]
    simp only [hv]
    simp [Instr.panic, go_sem]
  rw [hr]
  exact hK ρ I w hm (Ext.refl _ _ _ _)
theorem qB2 {id : Nat} {l pre post : List Oper} {dst : Option Nat} {op : Op} {ty : TypeId} {pos : String} {af : Array Edge} {Q : Exit → St → Prop} {σ : Sl} {β : Bx} (hmx : P.follows .mixedOrders = true) (hl : l = pre ++ ⟨dst, op, ty, pos, af, none⟩ :: post)
    (h : runP P l pre σ β fun σ' β' => ∃ chain ups rd, Pans P op ty (ev σ') β' chain ups rd ∧ Q (.panic chain) ⟨σ', ups ++ β'⟩) : AW P (.region id l.toArray false) Q ⟨σ, β⟩ := by
  refine .inr fun C a w hc ha => ?_
  obtain ⟨ρ, I, hm, hf⟩ := ha
  refine wp_region_list ?_
  have hc : qDV C.K C.N l = true := hc
  have key : ∀ (ops : List Oper) (σ : Sl) (β : Bx) (ρ : Nat → Value) (I : Nat → Prop) (w : World) (a : Act), qDV C.K C.N ops = true → runP P l ops σ β (fun σ' β' => ∃ chain ups rd, Pans P op ty (ev σ') β' chain ups rd ∧ Q (.panic chain) ⟨σ', ups ++ β'⟩) → Mem C β ρ I w → Fr C σ β ρ I w a →
      wpList P l.toArray (lift C Q) (ops ++ ⟨dst, op, ty, pos, af, none⟩ :: post) a w := by
    intro ops
    induction ops with
    | nil =>
      rintro σ β ρ I w a _ ⟨chain, ups, rd, hp, hq⟩ hm hf
      refine wpList_step fun K' hK' => ?_
      rw [if_pos (by simp [Region.wanted])]
      refine hp C β (fun _ _ => rfl) ρ I w hm a (fun x _ => hf.ev hm x) _ rfl rfl K' (lift C Q) fun ρ' I' w' m1 x1 => ⟨_, hq, ρ', I', m1, hf.defers, hf.size, hf.keep, fun t v ht => ?_⟩
      obtain ⟨k1, k2, k3⟩ := hf.val t v ht
      exact ⟨k1, A.inB_mono (fun i hi => qBy hi) v k2, RepA.ext x1 v _ k2 k3⟩
    | cons o r ih =>
      rintro σ β ρ I w a hd ⟨v, ups, rd, hs, h⟩ hm hf
      simp only [qDV, List.all_cons, Bool.and_eq_true] at hd
      refine wpList_step fun K' hK' => ?_
      refine qEZ hs (fun _ _ => rfl) (fun _ _ => rfl) hm hf K' _ fun vv ρ' I' w' h1 h2 h3 h4 => hK' _ _ ?_
      refine ih _ _ ρ' I' w' _ hd.2 h h1 (hf.put h2 (fun t ht => ?_) h3 h4)
      have := hd.1
      rw [ht] at this
      simpa using this
  have hpre : qDV C.K C.N pre = true := by
    rw [hl] at hc
    unfold qDV at hc ⊢
    rw [List.all_append, Bool.and_eq_true] at hc
    exact hc.1
  have := key pre σ β ρ I w a hpre h hm hf
  rw [← hl] at this
  simpa using this
end
end Go.Proofs.YtlpnnnmdkglkcaaDoor


/-
  The pure layer: a region that draws its order, of which one operation panics, that waits for one other. No condition.
-/
namespace Go.Proofs.YtlpnnnmdkglkcaaDoor
open Go.RowKit

def edgesBack (l : List Oper) : Bool := (List.range l.length).all fun i => match l[i]? with
  | some o => o.after.toList.all fun e => !(Region.binds .any e) || decide (e.on < i)
  | none => true
def waits (o : Oper) (ks : List Nat) : Bool := o.after.toList.any fun e => Region.binds .any e && ks.any (· == e.on)
theorem waits_get {o : Oper} {ks : List Nat} (h : waits o ks = true) : ∃ e ∈ o.after, Region.binds .any e = true ∧ e.on ∈ ks := by
  obtain ⟨e, he, h⟩ := List.any_eq_true.1 h
  rw [Bool.and_eq_true] at h
  obtain ⟨k, hk, h2⟩ := List.any_eq_true.1 h.2
  have h2 : k = e.on := by simpa using h2
  subst h2
  exact ⟨e, by simpa using he, h.1, hk⟩
def dropS (l : List Nat) (σ : Sl) : Sl := σ.filter fun p => !(l.any (· == p.1))
theorem qET {l : List Nat} {t : Nat} {v : A} : ∀ {σ : Sl}, look t (dropS l σ) = some v → look t σ = some v
  | [], h => by cases h
  | (k, u) :: σ, h => by
    unfold dropS at h
    rw [List.filter_cons] at h
    rw [qA6]
    split at h
    · rw [qA6] at h
      split at h
      · rename_i hk; rw [if_pos hk]; exact h
      · rename_i hk; rw [if_neg hk]; exact qET h
    · rename_i hkl
      split
      · rename_i hk
        subst hk
        exfalso
        have h0 : ∀ σ : Sl, look k (σ.filter fun p => !(l.any (· == p.1))) = none := fun σ => by
          refine qDY fun hm => ?_
          obtain ⟨p, hp, rfl⟩ := List.mem_map.1 hm
          exact hkl (List.mem_filter.1 hp).2
        rw [h0] at h
        cases h
      · exact qET h
theorem At.dropS {C : Ctx} {σ : Sl} {β : Bx} {a : Act} {w : World} (h : At C ⟨σ, β⟩ a w) (l : List Nat) : At C ⟨dropS l σ, β⟩ a w := by
  obtain ⟨ρ, I, hm, hf⟩ := h
  exact ⟨ρ, I, hm, hf.defers, hf.size, hf.keep, fun t v ht => hf.val t v (qET ht)⟩
section
variable {P : Program}
theorem aw_panD' {id k f tf : Nat} {l : List Oper} {ok of : Oper} {v : A} {rd rd' dep : List Nat} {Q : Exit → St → Prop} {σ : Sl} {β ups : Bx} {chain : List PanicEntry} (hmx : P.follows .mixedOrders = true) (he : edgesBack l = true)
    (hf : l[f]? = some of) (hft : of.dst = some tf) (hfs : qCa P l σ β of v [] rd) (hfk : f ≠ k) (hfd : f ∉ dep) (hk : l[k]? = some ok) (hkg : ok.guard = none) (hkw : waits ok [f] = true)
    (hp : Pans P ok.op ok.type (ev ((tf, v) :: σ)) β chain ups rd') (hq : Q (.panic chain) ⟨[], []⟩)
    (hfree : ∀ i o, l[i]? = some o → i = k ∨ i = f ∨ (waits o (k :: dep) = true) ∨ (i ≠ k ∧ i ≠ f ∧ i ∉ dep ∧ ∃ u rd, qCa P l σ β o u [] rd ∧ tf ∉ qE6 l o ∧ ∀ t, o.dst = some t → t ≠ tf ∧ look t σ = none)) :
    AW P (.region id l.toArray true) Q ⟨σ, β⟩ := by
  refine .inr fun C a w hc ha => ?_
  have hd : qDV C.K C.N l = true := hc
  have hdN : ∀ i (o : Oper), l[i]? = some o → ∀ t, o.dst = some t → C.K t = false ∧ t < C.N := fun i o ho t ht => by
    have := List.all_eq_true.1 hd o (List.mem_of_getElem? ho)
    rw [ht] at this
    simpa using this
  refine wp_region_any hmx ?_
  refine any_inv (fun listed a' w' => lst listed k = false ∧ (∀ d ∈ dep, lst listed d = false) ∧ At C ⟨if lst listed f = true then (tf, v) :: σ else σ, β⟩ a' w') ?_ ?_ ?_ _ _ a _ (by simp) (by simp) ?_
  · intro i o ho e hem hb
    rw [List.getElem?_toArray] at ho
    have h1 := List.all_eq_true.1 he i (List.mem_range.2 (List.getElem?_eq_some_iff.1 ho).1)
    rw [ho] at h1
    have h2 := List.all_eq_true.1 h1 e (by simpa using hem)
    rw [hb] at h2
    simpa using h2
  · rintro listed j o a' w' hs ho hun haf ⟨hlk, hld, hat⟩ K' hK'
    rw [List.getElem?_toArray] at ho
    have hjl : j < listed.size := by rw [hs]; simpa using (List.getElem?_eq_some_iff.1 ho).1
    have hset : ∀ i, lst (listed.setIfInBounds j true) i = (lst listed i || i == j) := lst_set hjl
    rcases hfree j o ho with rfl | rfl | hw | ⟨hjk, hjf, hjd, u, rd2, hst, hin, hdst⟩
    · rw [hk] at ho
      injection ho with ho
      subst ho
      obtain ⟨e, hem, hb, hon⟩ := waits_get hkw
      have hon : e.on = f := by simpa using hon
      have hlf := haf e hem hb
      rw [hon] at hlf
      rw [if_pos hlf] at hat
      obtain ⟨ρ, I, hm, hfr⟩ := hat
      rw [if_pos (by simp [Region.wanted, hkg])]
      refine hp C β (fun _ _ => rfl) ρ I w' hm a' (fun x _ => hfr.ev hm x) _ rfl rfl K' (lift C Q) fun ρ' I' w2 m1 x1 => ⟨_, hq, ?_⟩
      exact ⟨ρ', I', m1.none, hfr.defers, hfr.size, hfr.keep, fun t v ht => by cases ht⟩
    · rw [hf] at ho
      injection ho with ho
      subst ho
      rw [hun] at hat
      simp only [Bool.false_eq_true, if_false] at hat
      obtain ⟨ρ, I, hm, hfr⟩ := hat
      refine qEZ hfs (fun _ _ => rfl) (fun _ _ => rfl) hm hfr K' _ fun vv ρ' I' w2 h1 h2 h3 h4 => hK' _ _ ⟨?_, fun d hdd => ?_, ?_⟩
      · rw [hset, hlk]; simp [Ne.symm hfk]
      · rw [hset, hld d hdd]
        have : d ≠ j := fun h => hfd (h ▸ hdd)
        simp [this]
      · rw [hset]
        simp only [beq_self_eq_true, Bool.or_true, if_true]
        have h5 := hfr.put h2 (hdN _ _ hf) h3 h4
        rw [hft] at h5
        rw [hft]
        exact ⟨ρ', I', by simpa using h1, by simpa [putS] using h5⟩
    · exfalso
      obtain ⟨e, hem, hb, hon⟩ := waits_get hw
      have hle := haf e hem hb
      rcases List.mem_cons.1 hon with h | h
      · rw [h, hlk] at hle; cases hle
      · rw [hld _ h] at hle; cases hle
    · obtain ⟨ρ, I, hm, hfr⟩ := hat
      have hτ : ∀ t, t ≠ tf → look t (if lst listed f = true then (tf, v) :: σ else σ) = look t σ := fun t ht => by
        split
        · rw [qA6, if_neg (Ne.symm ht)]
        · rfl
      refine qEZ hst (fun _ _ => rfl) (fun t ht => hτ t fun h => hin (h ▸ ht)) hm hfr K' _ fun vv ρ' I' w2 h1 h2 h3 h4 => hK' _ _ ⟨?_, fun d hdd => ?_, ?_⟩
      · rw [hset, hlk]; simp [Ne.symm hjk]
      · rw [hset, hld d hdd]
        have : d ≠ j := fun h => hjd (h ▸ hdd)
        simp [this]
      · rw [hset, show (f == j) = false by simp [Ne.symm hjf], Bool.or_false]
        have h5 := hfr.put h2 (hdN j o ho) h3 h4
        refine ⟨ρ', I', by simpa using h1, h5.defers, h5.size, h5.keep, fun t x hx => h5.val t x ?_⟩
        rw [qCQ]
        by_cases hdt : o.dst = some t
        · exfalso
          obtain ⟨q1, q2⟩ := hdst t hdt
          rw [hτ t q1, q2] at hx
          cases hx
        · rw [if_neg hdt]; exact hx
  · rintro listed a' w' hs hall ⟨hlk, _⟩
    exfalso
    have hkl : k < l.length := (List.getElem?_eq_some_iff.1 hk).1
    rw [hall k (by simpa using hkl)] at hlk
    cases hlk
  · have e0 : ∀ i, lst (Array.replicate l.toArray.size false) i = false := fun i => by
      unfold lst
      rw [Array.getD_eq_getD_getElem?, Array.getElem?_replicate]
      split <;> rfl
    refine ⟨e0 k, fun d _ => e0 d, ?_⟩
    rw [e0 f]
    simp only [Bool.false_eq_true, if_false]
    obtain ⟨ρ, I, hm, hf'⟩ := ha
    refine ⟨ρ, I, hm.drewN _, hf'.defers, hf'.size, hf'.keep, fun t v ht => ?_⟩
    obtain ⟨k1, k2, k3⟩ := hf'.val t v ht
    exact ⟨k1, k2, RepA.ext (β := β) (ρ := ρ) (I := I) (w := w) (w' := { w with drawn := w.drawn + 1 }) ⟨⟨fun _ h => h, fun _ _ => rfl⟩, fun _ _ => rfl⟩ v _ k2 k3⟩
theorem aw_panD {id k f tf : Nat} {l : List Oper} {ok of : Oper} {v : A} {rd rd' dep : List Nat} (drop : List Nat) {Q : Exit → St → Prop} {σ : Sl} {β ups : Bx} {chain : List PanicEntry} (hmx : P.follows .mixedOrders = true) (he : edgesBack l = true)
    (hf : l[f]? = some of) (hft : of.dst = some tf) (hfs : qCa P l (dropS drop σ) β of v [] rd) (hfk : f ≠ k) (hfd : f ∉ dep) (hk : l[k]? = some ok) (hkg : ok.guard = none) (hkw : waits ok [f] = true)
    (hp : Pans P ok.op ok.type (ev ((tf, v) :: dropS drop σ)) β chain ups rd') (hq : Q (.panic chain) ⟨[], []⟩)
    (hfree : ∀ i o, l[i]? = some o → i = k ∨ i = f ∨ (waits o (k :: dep) = true) ∨ (i ≠ k ∧ i ≠ f ∧ i ∉ dep ∧ ∃ u rd, qCa P l (dropS drop σ) β o u [] rd ∧ tf ∉ qE6 l o ∧ ∀ t, o.dst = some t → t ≠ tf ∧ look t (dropS drop σ) = none)) :
    AW P (.region id l.toArray true) Q ⟨σ, β⟩ := by
  rcases aw_panD' (id := id) (Q := Q) hmx he hf hft hfs hfk hfd hk hkg hkw hp hq hfree with h | h
  · exact .inr fun C a w hc ha => qBN hmx _ _ _ a w hc (.inl h) (ha.dropS drop)
  · exact .inr fun C a w hc ha => h C a w hc (ha.dropS drop)
theorem panFree {l : List Oper} {σ : Sl} {β : Bx} {t : Nat} {op : Op} {ty : TypeId} {pos : String} {af : Array Edge} {i k f tf : Nat} {dep : List Nat} {u : A} {rd : List Nat} (hs : Does P (some t) op ty (ev σ) β u [] rd) (h1 : i ≠ k) (h2 : i ≠ f) (h3 : i ∉ dep) (h4 : tf ∉ qE6 l ⟨some t, op, ty, pos, af, none⟩) (h5 : t ≠ tf) (h6 : look t σ = none) :
    i = k ∨ i = f ∨ (waits ⟨some t, op, ty, pos, af, none⟩ (k :: dep) = true) ∨ (i ≠ k ∧ i ≠ f ∧ i ∉ dep ∧ ∃ u rd, qCa P l σ β ⟨some t, op, ty, pos, af, none⟩ u [] rd ∧ tf ∉ qE6 l ⟨some t, op, ty, pos, af, none⟩ ∧ ∀ t', (some t : Option Nat) = some t' → t' ≠ tf ∧ look t' σ = none) :=
  .inr (.inr (.inr ⟨h1, h2, h3, u, rd, hs, h4, fun t' ht => by injection ht with ht; subst ht; exact ⟨h5, h6⟩⟩))
end
end Go.Proofs.YtlpnnnmdkglkcaaDoor


/-
  The pure layer: a function that defers one closure, which catches its panic. No condition.
-/
namespace Go.Proofs.YtlpnnnmdkglkcaaDoor
open Go.RowKit

def Catches (P : Program) (g : FuncId) (al : List A) (V V' : Bx) (v : Value) : Prop := ∀ (ρ : Nat → Value) (I : Nat → Prop) (w : World) (vs : Array Value), Mem (qDE (V ++ []) ρ I w) (V ++ []) ρ I w → A.insB (V ++ []) al → qBj ρ I w false al vs.toList →
  CallsD P g vs (.panicking [{ v := v, recovered := false }]) w fun e u' w' => (∃ x, e = .returned x) ∧ settle u' = .returning ∧ ∃ ρ' I', (∀ p ∈ V', ρ' p.1 = ρ p.1) ∧ Mem (qDE (V ++ []) ρ I w) (V' ++ []) ρ' I' w'
def RecR (P : Program) (c0 : Code) (n t7 t : Nat) : Prop := ∀ (c₀ : Frame) (cs : List Frame) (v : Value) (Q : Exit → Act → List Frame → World → Prop) (a : Act) (w : World), c₀.mode = .panicking [{ v := v, recovered := false }] → a.tmps.size = n →
  Q .normal { a with tmps := (a.tmps.setIfInBounds t7 v).setIfInBounds t v } ({ c₀ with mode := .panicking [{ v := v, recovered := true }] } :: cs) w → c0.wpS P Q a (c₀ :: cs) w
def catE (al : List A) (V' : Bx) : Exit → St → Prop
  | .normal, s => ∃ l, Forget l s ⟨keptS 0 al, V'⟩
  | .ret, s => ∃ l, Forget l s ⟨keptS 0 al, V'⟩
  | _, _ => False
section
variable {P : Program}
theorem catches_of_aw {g : FuncId} {fn : Func} {c0 X : Code} {al : List A} {V V' : Bx} {T : TypeId} {u : Value} {t7 t : Nat} (hf : P.funcs[g]? = some fn) (hb : fn.body = some (.seq c0 X)) (hmx : P.follows .mixedOrders = true) (hok : qB8 (keptK al) fn.ntmps X = true) (hds : al.length ≤ fn.ntmps) (hrs : fn.results = #[])
    (hV : V'.all (fun p => hasPx p.1 al) = true) (h0 : RecR P c0 fn.ntmps t7 t) (ht7 : al.length ≤ t7) (ht : al.length ≤ t) (htn : t < fn.ntmps) (hX : AW P X (catE al V') ⟨(t, .d (.sc (.iface T u))) :: argA 0 al, V⟩) : Catches P g al V V' (.iface T u) := by
  intro ρ I w vs hm hin hr
  rw [List.append_nil] at hm hin ⊢
  refine callsD_of_wpS hf hb fun c₀ cs hu => ?_
  have hvl := qBZ hr
  rw [Array.length_toList] at hvl
  have hget : ∀ {i : Nat} {v : A}, al[i]? = some v → ∃ u, vs[i]? = some u ∧ RepA ρ I w v u ∧ (vs ++ Array.replicate (fn.ntmps - vs.size) undef).getD i undef = u ∧ i < vs.size := fun {i v} hi => by
    obtain ⟨u, h3, h4, _⟩ := qCe hr hi
    have hlt : i < vs.size := by rw [← Array.length_toList]; exact (List.getElem?_eq_some_iff.1 h3).1
    have h5 : vs[i]? = some u := by simpa using h3
    refine ⟨u, h5, h4, ?_, hlt⟩
    rw [Array.getD_eq_getD_getElem?, Array.getElem?_append_left hlt, h5]; rfl
  have hsz : (vs ++ Array.replicate (fn.ntmps - vs.size) undef).size = fn.ntmps := by simp; omega
  generalize htm : vs ++ Array.replicate (fn.ntmps - vs.size) undef = tm at hget hsz ⊢
  refine wpS_seq (h0 c₀ cs (.iface T u) _ _ w hu hsz ?_)
  refine wpS_of_wp ?_
  let C : Ctx := { w0 := w, PB := PBof V ρ, I0 := I, N := fn.ntmps, K := keptK al, args := fun t => tm.getD t undef }
  have hm' : Mem C V ρ I w := hm.ctx rfl rfl rfl
  have hne : ∀ i, i < al.length → ((tm.setIfInBounds t7 (.iface T u)).setIfInBounds t (.iface T u)).getD i undef = tm.getD i undef := fun i hi => by
    simp only [Array.getD_eq_getD_getElem?]
    rw [Array.getElem?_setIfInBounds_ne (by omega), Array.getElem?_setIfInBounds_ne (by omega)]
  have hat : At C ⟨(t, .d (.sc (.iface T u))) :: argA 0 al, V⟩ { tmps := (tm.setIfInBounds t7 (.iface T u)).setIfInBounds t (.iface T u), defers := [] } w := by
    refine ⟨ρ, I, hm', rfl, ?_, fun t' ht' => ?_, fun t' v htv => ?_⟩
    · show ((tm.setIfInBounds t7 (.iface T u)).setIfInBounds t (.iface T u)).size = fn.ntmps
      simp [hsz]
    · have hlt : t' < al.length := by
        have h1 : keptK al t' = true := ht'
        unfold keptK at h1
        split at h1
        · rename_i heq; exact (List.getElem?_eq_some_iff.1 heq).1
        · cases h1
      exact hne t' hlt
    · rw [qA6] at htv
      split at htv
      · rename_i htt
        subst htt
        injection htv with htv
        subst htv
        refine ⟨htn, trivial, ?_⟩
        have : ((tm.setIfInBounds t7 (.iface T u)).setIfInBounds t (.iface T u)).getD t undef = .iface T u := by
          simp [Array.getD_eq_getD_getElem?, hsz, htn]
        show RepA ρ I w _ (((tm.setIfInBounds t7 (.iface T u)).setIfInBounds t (.iface T u)).getD t undef)
        rw [this]
        exact ⟨rfl, rfl⟩
      · obtain ⟨i, h1, h2⟩ := qDn htv
        rw [Nat.zero_add] at h1
        subst h1
        obtain ⟨x, h3, h4, h5, h6⟩ := hget h2
        have hlt : t' < al.length := (List.getElem?_eq_some_iff.1 h2).1
        refine ⟨by show t' < fn.ntmps; omega, A.insB_mem hin v (List.mem_of_getElem? h2), ?_⟩
        show RepA ρ I w v (((tm.setIfInBounds t7 (.iface T u)).setIfInBounds t (.iface T u)).getD t' undef)
        rw [hne t' hlt, h5]; exact h4
  have hfin : ∀ s a' w', (∃ l, Forget l s ⟨keptS 0 al, V'⟩) → At C s a' w' → a'.defers = [] ∧ ∃ u', ({ c₀ with mode := .panicking [{ v := .iface T u, recovered := true }] } : Frame) :: cs = { c₀ with mode := u' } :: cs ∧ ∃ x, (results fn a'.tmps).run P w' = .ok x w' ∧
      ((∃ y, Ending.returned x = .returned y) ∧ settle u' = .returning ∧ ∃ ρ' I', (∀ p ∈ V', ρ' p.1 = ρ p.1) ∧ Mem (qDE V ρ I w) (V' ++ []) ρ' I' w') := by
    rintro s a' w' ⟨l, hfg⟩ ⟨ρ2, J, hm2, hfr⟩
    have m2 := hfg.mem hm2
    have f2 := hfg.fr hfr
    refine ⟨hfr.defers, .panicking [{ v := .iface T u, recovered := true }], rfl, .tuple #[], ?_, ⟨_, rfl⟩, rfl, _, J, fun p hp => ?_, by rw [List.append_nil]; exact m2.ctx rfl rfl rfl⟩
    · unfold results
      rw [hrs]
      simp [go_sem]
    · obtain ⟨i, off, hi⟩ := qFZ (List.all_eq_true.1 hV p hp)
      obtain ⟨_, _, g1, q1, q2⟩ := f2.val i (.px p.1 off) (by have := qEY (k := 0) hi; rwa [Nat.zero_add] at this)
      obtain ⟨x, _, ⟨g0, z1, z2⟩, z3, _⟩ := hget hi
      have hk := hfr.keep i (by show keptK al i = true; unfold keptK; rw [hi])
      have hk : a'.tmps.getD i undef = x := by rw [hk]; exact z3
      rw [hk, z2] at q2
      injection q2 with q2; injection q2 with q2; injection q2 with q2
      subst q2
      show ρ2 (qAL l p.1) = ρ p.1
      rw [z1]; exact q1
  refine wp_mono (qBN hmx X _ _ _ w (C := C) hok hX hat) fun en a' w' hq => ?_
  obtain ⟨s, hq, ha⟩ := hq
  cases en with
  | normal => exact hfin s a' w' hq ha
  | ret => exact hfin s a' w' hq ha
  | _ => exact hq.elim
def DefR2 (P : Program) (c4 : Code) (g : FuncId) (caps : List Nat) (t : Nat) : Prop := ∀ (Q : Exit → Act → World → Prop) (a : Act) (w : World), t < a.tmps.size →
  (∀ x : Value, Q .normal { tmps := a.tmps.setIfInBounds t x, defers := { target := .fn (.func g) (caps.map fun k => a.tmps.getD k undef).toArray, args := #[] } :: a.defers } w) → c4.wp P Q a w
theorem ret_run {C : Ctx} {fn : Func} {rs : List ResultVar} {r : D} {s : St} {a : Act} {w : World} (hrs : fn.results = rs.toArray) (h : RetOk P rs r s) (hat : At C s a w) (hPB : C.PB = fun _ => False) :
    ∃ v, (results fn a.tmps).run P w = .ok v w ∧ RepD (fun g => (C.I0 g ∨ C.w0.heap.size ≤ g) ∧ g < w.heap.size) w r v ∧ Below C.w0.heap.size C.w0 w := by
  obtain ⟨vs', ds', h1, h2, hsub⟩ := h
  obtain ⟨ρ5, J5, m5, f5⟩ := hat
  obtain ⟨us, b1, b2, b3⟩ := qDe m5 f5 h1
  obtain ⟨J', m1, x1, r1, _⟩ := qCm _ _ ds' s.β J5 m5 b2 b3 h2
  have hul := qBP r1
  have hx : ExtI J' w (fun g => (C.I0 g ∨ C.w0.heap.size ≤ g) ∧ g < w.heap.size) w := ⟨fun g hg => ⟨by
    rcases m1.new g hg with h | h | h
    · exact .inl h
    · exact .inr h
    · rw [hPB] at h; exact h.elim, m1.imm g hg⟩, fun _ _ => rfl⟩
  have hbel : Below C.w0.heap.size C.w0 w := ⟨m1.os, m1.tape, m1.output, m1.size, fun k hk => m1.frame k hk (fun h => by rw [hPB] at h; exact h)⟩
  refine ⟨(if h : us.toArray.size = 1 then us.toArray[0] else .tuple us.toArray), ?_, ?_, hbel⟩
  · have hrm : ∀ fn' : Func, fn'.results = rs.toArray → results fn' a.tmps = (do
        let vs ← rs.toArray.mapM (qEf a.tmps)
        pure (if h : vs.size = 1 then vs[0] else .tuple vs)) := fun fn' h' => by
      unfold results
      rw [h']
      congr 1
    rw [hrm fn hrs, List.mapM_toArray]
    simp only [map_eq_pure_bind, bind_assoc, pure_bind, Sem.run_bind, b1, Result.andThen_ok, Sem.run_pure]
  · refine hsub _ _ _ ?_
    cases ds' with
    | nil =>
      cases r1
      refine ⟨#[], by rfl, rfl⟩
    | cons d ds1 =>
      obtain ⟨u, us1, rfl, _, hd, hrest⟩ := r1
      cases ds1 with
      | nil =>
        cases hrest
        exact RepD.ext hx d u hd
      | cons d2 ds2 =>
        have hl2 := qBP hrest
        rw [dif_neg (by simp [hl2])]
        refine ⟨_, rfl, ?_⟩
        have := RepC.ext hx false (d :: d2 :: ds2) (u :: us1) ⟨u, us1, rfl, fun h => by (cases h), hd, hrest⟩
        simpa using this
theorem caps_rep {ρ : Nat → Value} {I : Nat → Prop} {w : World} {f : Nat → Value} {σ : Sl} (hv : ∀ t v, look t σ = some v → RepA ρ I w v (f t)) : ∀ {caps : List Nat} {al : List A}, caps.map (fun k => look k σ) = al.map some → qBj ρ I w false al (caps.map f)
  | [], [], _ => rfl
  | k :: caps, v :: al, h => by
    simp only [List.map_cons, List.cons.injEq] at h
    exact ⟨f k, caps.map f, rfl, fun h => by (cases h), hv k v h.1, caps_rep hv h.2⟩
  | [], _ :: _, h => by simp at h
  | _ :: _, [], h => by simp at h
theorem caps_in {β : Bx} {σ : Sl} (hv : ∀ t v, look t σ = some v → v.inB β) : ∀ {caps : List Nat} {al : List A}, caps.map (fun k => look k σ) = al.map some → A.insB β al
  | [], [], _ => trivial
  | k :: caps, v :: al, h => by
    simp only [List.map_cons, List.cons.injEq] at h
    exact ⟨hv k v h.1, caps_in hv h.2⟩
  | [], _ :: _, h => by simp at h
  | _ :: _, [], h => by simp at h
theorem pc_of_aw_dp {f : FuncId} {fn : Func} {c0 c1 c3 c4 X : Code} {ds : List D} {r : D} {rs : List ResultVar} {s3 s5 : St} {g : FuncId} {caps : List Nat} {t : Nat} {L al : List A} {V V' ups : Bx} {T : TypeId} {u : Value} (ren : List (Nat × Nat)) (hf : P.funcs[f]? = some fn) (hb : fn.body = some (.seq c0 (.seq c1 (.seq c3 (.seq c4 X)))))
    (hn : (fn.name == "runtime.NumGoroutine") = false) (hmx : P.follows .mixedOrders = true) (hok : qB8 (fun _ => false) fn.ntmps (.seq c0 (.seq c1 (.seq c3 (.seq c4 X)))) = true) (hokX : qB8 (fun k => caps.contains k) fn.ntmps X = true) (hds : ds.length ≤ fn.ntmps) (hrs : fn.results = rs.toArray)
    (hA : AW P (.seq c0 (.seq c1 c3)) (fun e s => e = .normal ∧ Ent s s3) ⟨argS 0 ds, []⟩) (h4 : DefR2 P c4 g caps t) (ht : look t s3.σ = none) (htn : t < fn.ntmps) (htc : caps.contains t = false) (hg : qEG P g)
    (hX : AW P X (fun e s => e = .panic [{ v := .iface T u, recovered := false }] ∧ Ent s s5) s3) (hq : Catches P g al V V' (.iface T u)) (hcaps : caps.map (fun k => look k s5.σ) = L.map some)
    (has : L.map (frzX s5.β) = A.rens (qAL ren) al) (hkb : qEt (qAL ren) (qBU s5.β L ++ s5.β) (V ++ [])) (ho : qDo (qAL ren) (V ++ []) = true) (hin : inBb (V ++ []) (V ++ [])) (hia : A.insB (V ++ []) al)
    (hkeys : V'.map (·.1) = V.map (·.1)) (hlv : V.all (fun p => p.2.live) = true) (ho' : qDo (qAL ren) (V' ++ []) = true)
    (hups : ups = renB (qAL ren) (V' ++ []) ++ qCo (qAL ren) [] ++ qBU s5.β L) (hret : RetOk P rs r ⟨s5.σ, ups ++ s5.β⟩) : PC P f ds r := by
  refine ⟨qCu hf hb hn, fun I w vs hI hr => ?_⟩
  refine calls_of_wp_defers hf hb ?_
  have hvl := qBP hr
  rw [Array.length_toList] at hvl
  let C : Ctx := { w0 := w, PB := fun _ => False, I0 := I, N := fn.ntmps, K := fun _ => false, args := fun _ => undef }
  have hat : At C ⟨argS 0 ds, []⟩ { tmps := vs ++ Array.replicate (fn.ntmps - vs.size) undef, defers := [] } w := by
    refine ⟨fun _ => undef, I, ⟨rfl, rfl, rfl, Nat.le_refl _, fun _ _ _ => rfl, hI.1, fun g hg => .inl hg, fun id b h => by (cases h), fun id b g h => by (cases h), fun i j b b' g h => by (cases h), fun id b h => by (cases h), hI.2⟩, rfl, ?_, fun t ht => (by cases ht), fun t v ht => ?_⟩
    · show (vs ++ Array.replicate (fn.ntmps - vs.size) undef).size = fn.ntmps
      simp; omega
    · obtain ⟨i, d, h1, h2, rfl⟩ := qEE ht
      obtain ⟨u, h3, h4, _⟩ := qDs hr h2
      have hlt : i < vs.size := by rw [← Array.length_toList]; exact (List.getElem?_eq_some_iff.1 h3).1
      rw [Nat.zero_add] at h1
      subst h1
      refine ⟨by show t < fn.ntmps; omega, trivial, ?_⟩
      have e1 : (vs ++ Array.replicate (fn.ntmps - vs.size) undef).getD t undef = u := by
        rw [Array.getD_eq_getD_getElem?, Array.getElem?_append_left hlt]
        have : vs[t]? = some u := by simpa using h3
        rw [this]; rfl
      show RepD I w d ((vs ++ Array.replicate (fn.ntmps - vs.size) undef).getD t undef)
      rw [e1]; exact h4
  simp only [qB8, Bool.and_eq_true] at hok
  obtain ⟨k0, k1, k3, k4, kX⟩ := hok
  have hA : AW P c0 (qDU (AW P c1 (qDU (AW P c3 (fun e s => e = .normal ∧ Ent s s3)) (fun e s => e = .normal ∧ Ent s s3))) (fun e s => e = .normal ∧ Ent s s3)) ⟨argS 0 ds, []⟩ := hA
  have hdead : ∀ {e : Exit} {s : St} {p : Prop}, e ≠ .normal → (e = .normal ∧ Ent s s3) → p := fun h h2 => absurd h2.1 h
  refine wp_seq (wp_mono (qBN hmx (C := C) c0 _ _ _ w k0 hA hat) fun e a1 w1 hq1 => ?_)
  obtain ⟨s1, hq1, at1⟩ := hq1
  cases e with
  | normal =>
    refine wp_seq (wp_mono (qBN hmx (C := C) c1 _ _ _ w1 k1 hq1 at1) fun e a2 w2 hq2 => ?_)
    obtain ⟨s2, hq2, at2⟩ := hq2
    cases e with
    | normal =>
      refine wp_seq (wp_mono (qBN hmx (C := C) c3 _ _ _ w2 k3 hq2 at2) fun e a3 w3 hq3 => ?_)
      obtain ⟨s, ⟨rfl, hE⟩, at3⟩ := hq3
      have at3 := hE _ _ _ at3
      obtain ⟨ρ, J, hm, hfr⟩ := at3
      refine wp_seq (h4 _ _ _ (by rw [hfr.size]; exact htn) fun x => ?_)
      generalize hcap : (caps.map fun k => a3.tmps.getD k undef).toArray = cap
      let C' : Ctx := { C with dfs := [{ target := .fn (.func g) cap, args := #[] }], K := fun k => caps.contains k, args := fun k => (a3.tmps.setIfInBounds t x).getD k undef }
      have hd3 : a3.defers = [] := hfr.defers
      have hne : ∀ t', t ≠ t' → (a3.tmps.setIfInBounds t x).getD t' undef = a3.tmps.getD t' undef := fun t' hne => by simp [Array.getD_eq_getD_getElem?, Array.getElem?_setIfInBounds_ne hne]
      have at4 : At C' s3 { tmps := a3.tmps.setIfInBounds t x, defers := { target := .fn (.func g) cap, args := #[] } :: a3.defers } w3 := by
        refine ⟨ρ, J, ⟨hm.os, hm.tape, hm.output, hm.size, hm.frame, hm.imm, hm.new, hm.box, hm.own, hm.inj, hm.clo, hm.gl⟩, by rw [hd3], by show (a3.tmps.setIfInBounds t x).size = _; rw [Array.size_setIfInBounds]; exact hfr.size, fun t ht => rfl, fun t' u hu => ?_⟩
        obtain ⟨q1, q2, q3⟩ := hfr.val t' u hu
        refine ⟨q1, q2, ?_⟩
        have hne2 : t ≠ t' := fun e => by rw [e] at ht; rw [ht] at hu; cases hu
        show RepA ρ J w3 u ((a3.tmps.setIfInBounds t x).getD t' undef)
        rw [hne t' hne2]; exact q3
      refine wp_mono (qBN hmx (C := C') X _ _ _ w3 hokX hX at4) fun e a5 w5 hq5 => ?_
      obtain ⟨s', ⟨rfl, hE5⟩, at5⟩ := hq5
      obtain ⟨ρ5, J5, m5, f5⟩ := hE5 _ _ _ at5
      have hcap5 : cap.toList = caps.map fun k => a5.tmps.getD k undef := by
        rw [← hcap]
        refine List.map_congr_left fun k hk => ?_
        have h1 := f5.keep k (by show caps.contains k = true; simpa using hk)
        have hkt : t ≠ k := fun e => by
          rw [e] at htc
          have : caps.contains k = true := by simpa using hk
          rw [this] at htc; cases htc
        rw [h1]
        exact (hne k hkt).symm
      have hrep : qBj ρ5 J5 w5 false L cap.toList := by
        rw [hcap5]
        exact caps_rep (fun t v hv => (f5.val t v hv).2.2) hcaps
      have hinb : A.insB s5.β L := caps_in (fun t v hv => (f5.val t v hv).2.1) hcaps
      obtain ⟨I1, hmc, hre, hnext⟩ := callX_mem (V' := V') (R' := []) ren ren has hkb ho hin hkeys (by simp) hlv ho' (by rfl) hups rfl (fun _ _ => rfl) m5 hinb hrep
      have hd5 : a5.defers = [{ target := .fn (.func g) cap, args := #[] }] := f5.defers
      show Leaves P fn a5.tmps _ a5.defers (.panicking [{ v := .iface T u, recovered := false }]) w5
      rw [hd5]
      refine leaves_cons (f := g) (args := cap) (by simp) (by simp [go_sem]; exact hg cap w5) ?_
      refine (hq _ I1 w5 cap hmc hia hre).mono ?_
      rintro e u' w6 ⟨⟨v0, rfl⟩, hset, ρ', I', hρ, hm'⟩
      obtain ⟨ρ2, I2, q1, q2, _⟩ := hnext w6 ρ' I' hρ hm'
      have at6 : At C' ⟨s5.σ, ups ++ s5.β⟩ a5 w6 := by
        refine ⟨ρ2, I2, q1, f5.defers, f5.size, f5.keep, fun t v ht => ?_⟩
        obtain ⟨k1, k2, k3⟩ := f5.val t v ht
        exact ⟨k1, A.inB_mono (fun i hi => qBy hi) v k2, RepA.ext q2 v _ k2 k3⟩
      obtain ⟨v, y1, y2, y3⟩ := ret_run hrs hret at6 rfl
      show Leaves P fn a5.tmps _ [] (settle u') w6
      rw [hset]
      exact ⟨v, y1, v, rfl, y2, y3⟩
    | _ => exact hdead (by simp) hq2
  | _ => exact hdead (by simp) hq1
end
end Go.Proofs.YtlpnnnmdkglkcaaDoor

