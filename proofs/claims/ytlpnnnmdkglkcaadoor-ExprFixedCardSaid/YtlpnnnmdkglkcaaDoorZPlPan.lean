/-
  The pure layer: functions that panic. No condition.
-/
import Derived.Test.YtlpnnnmdkglkcaaDoorZPlDef
set_option linter.unusedSimpArgs false
set_option linter.unusedVariables false
namespace Go.Proofs.YtlpnnnmdkglkcaaDoor
open Go.RowKit

def Pans (P : Program) (op : Op) (ty : TypeId) (e : Operand → A) (β : Bx) (chain : List PanicEntry) (ups : Bx) (rd : List Nat) : Prop :=
  ∀ (C : Ctx) (γ : Bx), qCt β γ (rd ++ ups.map (·.1)) → ∀ (ρ : Nat → Value) (I : Nat → Prop) (w : World), Mem C γ ρ I w → ∀ a : Act,
    (∀ x ∈ op.operands.toList, (e x).inB γ ∧ RepA ρ I w (e x) (a.eval x)) → ∀ o : Oper, o.op = op → o.type = ty → ∀ (K : Act → World → Prop) (Q : Exit → Act → World → Prop),
      (∀ ρ' I' w', Mem C (ups ++ γ) ρ' I' w' → Ext γ ρ I w ρ' I' w' → Q (.panic chain) a w') → Oper.wp P o a w K Q
theorem callX_mem {β : Bx} {L al : List A} {V R V' R' : Bx} (ren ren' : List (Nat × Nat)) {ups : Bx} {rd : List Nat} (has : L.map (frzX β) = A.rens (qAR ren) al)
    (hb : keepB (qAR ren) (qB3 β L ++ β) (V ++ R)) (ho : qDP (qAR ren) (V ++ R) = true) (hin : inBb (V ++ R) (V ++ R))
    (hkeys : V'.map (·.1) = V.map (·.1)) (hvv : V'.all (fun p => qAR ren' p.1 == qAR ren p.1) = true) (hlv : V.all (fun p => p.2.live) = true)
    (ho' : qDP (qAR ren') (V' ++ R') = true) (hfresh : R'.all (fun p => (look (qAR ren' p.1) (qB3 β L ++ β)).isNone) = true)
    (hups : ups = renB (qAR ren') (V' ++ R') ++ qCO (qAR ren) R ++ qB3 β L) (hrd : rd = (V ++ R).map (fun p => qAR ren p.1) ++ L.flatMap idsV)
    {C : Ctx} {γ : Bx} (hag : qCt β γ (rd ++ ups.map (·.1))) {ρ : Nat → Value} {I : Nat → Prop} {w : World} (hm : Mem C γ ρ I w) {us : List Value} (h2 : A.insB γ L) (h3 : qBf ρ I w false L us) :
    ∃ I1, Mem (qDA (V ++ R) (fun i => ρ (qAR ren i)) I1 w) (V ++ R) (fun i => ρ (qAR ren i)) I1 w ∧ qBf (fun i => ρ (qAR ren i)) I1 w false al us ∧
      ∀ (w' : World) (ρ' : Nat → Value) (I' : Nat → Prop), (∀ p ∈ V', ρ' p.1 = ρ (qAR ren p.1)) → Mem (qDA (V ++ R) (fun i => ρ (qAR ren i)) I1 w) (V' ++ R') ρ' I' w' →
        ∃ ρ2 I2, Mem C (ups ++ γ) ρ2 I2 w' ∧ Ext γ ρ I w ρ2 I2 w' ∧ ExtI I' w' I2 w' := by
  subst hups hrd
  obtain ⟨e1, e2⟩ := qEu (fun id hid => hag id (List.mem_append_left _ (List.mem_append_right _ hid)))
  obtain ⟨I1, m1, x1, b1, r1, _⟩ := qDu _ _ γ I hm h2 h3
  rw [e1, has] at r1
  rw [e2] at m1
  generalize hU : qB3 β L = U at *
  have hagU : ∀ id, look id γ = look id β → look id (U ++ γ) = look id (U ++ β) := fun id h => by rw [qAK, qAK, h]
  have hkb : ∀ {i : Nat} {b : Box}, look i (V ++ R) = some b → look (qAR ren i) (U ++ γ) = some (b.ren (qAR ren)) := fun {i b} hi => by
    rw [hagU _ (hag _ (List.mem_append_left _ (List.mem_append_left _ (List.mem_map.2 ⟨(i, b), qBo hi, rfl⟩))))]
    exact qCq hb hi
  have hfr : ∀ p ∈ R', look (qAR ren' p.1) (U ++ γ) = none := fun p hp => by
    have h0 := List.all_eq_true.1 hfresh p hp
    have h0 : look (qAR ren' p.1) (U ++ β) = none := by simpa using h0
    have hmem : qAR ren' p.1 ∈ (renB (qAR ren') (V' ++ R') ++ qCO (qAR ren) R ++ U).map (·.1) := by
      rw [List.map_append, List.map_append]
      refine List.mem_append_left _ (List.mem_append_left _ ?_)
      exact List.mem_map.2 ⟨(qAR ren' p.1, p.2.ren (qAR ren')), List.mem_map.2 ⟨p, List.mem_append_right _ hp, rfl⟩, rfl⟩
    rw [hagU _ (hag _ (List.mem_append_right _ hmem))]
    exact h0
  have hmc : Mem (qDA (V ++ R) (fun i => ρ (qAR ren i)) I1 w) (V ++ R) (fun i => ρ (qAR ren i)) I1 w :=
    { os := rfl, tape := rfl, output := rfl, size := Nat.le_refl _, frame := fun _ _ _ => rfl, imm := m1.imm, new := fun g hg => .inl hg,
      box := fun i b hi => qB6.ren (m1.box _ _ (hkb hi)),
      own := fun i b g hi hl hg => by
        obtain ⟨q1, q2, _⟩ := m1.own _ _ g (hkb hi) (by rw [qBM]; exact hl) hg
        exact ⟨q1, q2, .inr ⟨i, b, hi, hl, hg⟩⟩,
      inj := fun i j b b' g hi hj hl hl' hg hg' => qC5 ho (qBo hi) (qBo hj) (m1.inj _ _ _ _ g (hkb hi) (hkb hj) (by rw [qBM]; exact hl) (by rw [qBM]; exact hl') hg hg'),
      clo := fun i b hi => qEj hin hi,
      gl := m1.gl }
  refine ⟨I1, hmc, qBf.ren (qAR ren) false al _ r1, fun w' ρ' I' hρ hm' => ?_⟩
  let fresh : Nat → Prop := fun i => ∃ p ∈ R', qAR ren' p.1 = i
  have hdec : ∀ i, fresh i ∨ ¬ fresh i := fun i => Classical.em _
  -- where each box lies behind the call
  obtain ⟨ρ2, hρ2, hρ3⟩ : ∃ ρ2 : Nat → Value, (∀ p ∈ R', ρ2 (qAR ren' p.1) = ρ' p.1) ∧ ∀ i, ¬ fresh i → ρ2 i = ρ i := by
    classical
    refine ⟨fun i => if h : fresh i then ρ' h.choose.1 else ρ i, fun p hp => ?_, fun i hi => dif_neg hi⟩
    have hf : fresh (qAR ren' p.1) := ⟨p, hp, rfl⟩
    simp only [dif_pos hf]
    obtain ⟨hq1, hq2⟩ := hf.choose_spec
    exact congrArg ρ' (qC5 ho' (b := hf.choose.2) (b' := p.2) (List.mem_append_right _ hq1) (List.mem_append_right _ hp) hq2)
  have hvk : ∀ {i : Nat} {b : Box}, look i (V' ++ R') = some b → (i, b) ∈ V' ∨ (i, b) ∈ R' := fun {i b} h => List.mem_append.1 (qBo h)
  have hvar : ∀ {i : Nat} {b : Box}, (i, b) ∈ V' → qAR ren' i = qAR ren i ∧ ∃ b0, look i (V ++ R) = some b0 ∧ b0.live = true := fun {i b} h => by
    refine ⟨by simpa using List.all_eq_true.1 hvv _ h, ?_⟩
    have hm0 : i ∈ V.map (·.1) := by rw [← hkeys]; exact List.mem_map.2 ⟨_, h, rfl⟩
    obtain ⟨b0, hb0⟩ := qBB hm0
    refine ⟨b0, by rw [qAK, hb0]; rfl, List.all_eq_true.1 hlv _ (qBo hb0)⟩
  have hnf : ∀ {i : Nat} {b : Box}, (i, b) ∈ V' → ¬ fresh (qAR ren i) := fun {i b} h hf => by
    obtain ⟨p, hp, hpe⟩ := hf
    obtain ⟨_, b0, hb0, _⟩ := hvar h
    have := hfr p hp
    rw [hpe, hkb hb0] at this
    cases this
  have hval : ∀ {i : Nat} {b : Box}, look i (V' ++ R') = some b → ρ2 (qAR ren' i) = ρ' i := fun {i b} h => by
    rcases hvk h with h | h
    · obtain ⟨q1, _⟩ := hvar h
      rw [q1, hρ3 _ (hnf h)]
      exact (hρ (i, b) h).symm
    · exact hρ2 (i, b) h
  let I2 : Nat → Prop := fun g => I1 g ∨ I' g
  have hPB : ∀ g, PBof (V ++ R) (fun i => ρ (qAR ren i)) g → ∃ id b, look id (U ++ γ) = some b ∧ b.live = true ∧ blk (ρ id) = some g ∧ g < w.heap.size ∧ ¬ I1 g ∧ (C.w0.heap.size ≤ g ∨ C.PB g) ∧ ∃ i b0, look i (V ++ R) = some b0 ∧ qAR ren i = id := fun g ⟨i, b, hi, hl, hg⟩ => by
    obtain ⟨q1, q2, q3⟩ := m1.own _ _ g (hkb hi) (by rw [qBM]; exact hl) hg
    exact ⟨_, _, hkb hi, by rw [qBM]; exact hl, hg, q1, q2, q3, i, b, hi, rfl⟩
  have hupsL : ∀ {i : Nat}, (∃ b, look i (V ++ R) = some b) → look (qAR ren i) (renB (qAR ren') (V' ++ R') ++ qCO (qAR ren) R) ≠ none := fun {i} ⟨b, hb⟩ => by
    rw [qAK] at hb
    rw [qAK]
    cases hv : look i V with
    | some b1 =>
      have hm0 : i ∈ V'.map (·.1) := by rw [hkeys]; exact List.mem_map.2 ⟨_, qBo hv, rfl⟩
      obtain ⟨b2, hb2⟩ := qBB hm0
      obtain ⟨q1, _⟩ := hvar (qBo hb2)
      obtain ⟨b3, hb3⟩ := qCW (π := qAR ren') (β := V' ++ R') (i := i) (b := b2) (by rw [qAK, hb2]; rfl)
      rw [← q1, hb3]; simp
    | none =>
      rw [hv] at hb
      have hb : look i R = some b := by simpa using hb
      obtain ⟨b2, hb2⟩ := qBB (l := qCO (qAR ren) R) (t := qAR ren i) (List.mem_map.2 ⟨(qAR ren i, .dead), List.mem_map.2 ⟨(i, b), qBo hb, rfl⟩, rfl⟩)
      rw [hb2]
      cases look (qAR ren i) (renB (qAR ren') (V' ++ R')) <;> simp
  have hx2 : Ext (U ++ γ) ρ I1 w ρ2 I2 w' := ⟨⟨fun g h => .inl h, fun g h => by
    refine hm'.frame g (m1.imm g h) fun hp => ?_
    obtain ⟨_, _, _, _, _, _, q, _⟩ := hPB g hp
    exact q h⟩, fun i hi => hρ3 i fun ⟨p, hp, hpe⟩ => hi (by rw [← hpe]; exact hfr p hp)⟩
  have hmono : ExtI I' w' I2 w' := ⟨fun g h => .inr h, fun _ _ => rfl⟩
  have hold0 : ∀ id b g, look id (U ++ γ) = some b → look id (renB (qAR ren') (V' ++ R') ++ qCO (qAR ren) R) = none → b.live = true → blk (ρ id) = some g → ¬ PBof (V ++ R) (fun i => ρ (qAR ren i)) g := fun id b g h1 h2 h3 h4 hp => by
    obtain ⟨id2, b2, q1, q2, q3, _, _, _, i, b0, q4, q5⟩ := hPB g hp
    have := m1.inj id id2 b b2 g h1 q1 h3 q2 h4 q3
    rw [this, ← q5] at h2
    exact hupsL ⟨b0, q4⟩ h2
  have hlive : ∀ {i : Nat} {b : Box}, look i (V' ++ R') = some b → b.live = true → ∀ g, blk (ρ2 (qAR ren' i)) = some g → g < w'.heap.size ∧ ¬ I2 g ∧ (C.w0.heap.size ≤ g ∨ C.PB g) ∧ (w.heap.size ≤ g ∨ PBof (V ++ R) (fun i => ρ (qAR ren i)) g) := fun {i b} h hl g hg => by
    rw [hval h] at hg
    obtain ⟨q1, q2, q3⟩ := hm'.own i b g h hl hg
    refine ⟨q1, fun h0 => ?_, ?_, q3⟩
    · rcases h0 with h0 | h0
      · rcases q3 with q3 | q3
        · exact absurd (m1.imm g h0) (by have : w.heap.size ≤ g := q3; omega)
        · obtain ⟨_, _, _, _, _, _, q, _⟩ := hPB g q3
          exact q h0
      · exact q2 h0
    · rcases q3 with q3 | q3
      · exact .inl (Nat.le_trans m1.size q3)
      · obtain ⟨_, _, _, _, _, _, _, q, _⟩ := hPB g q3
        exact q
  have hmem := m1.upd (renB (qAR ren') (V' ++ R') ++ qCO (qAR ren) R) hx2 hm'.os hm'.tape hm'.output hm'.size
    (fun g h => by
      rcases h with h | h
      · exact Nat.lt_of_lt_of_le (m1.imm g h) hm'.size
      · exact hm'.imm g h)
    (fun g h => by
      rcases h with h | h
      · exact .inl h
      · rcases hm'.new g h with h | h | h
        · exact .inl h
        · exact .inr (.inl (Nat.le_trans m1.size h))
        · obtain ⟨_, _, _, _, _, _, _, q, _⟩ := hPB g h
          exact .inr q)
    (PBof (V ++ R) (fun i => ρ (qAR ren i))) (fun k hk hp => hm'.frame k hk hp) (fun k hk => by
      obtain ⟨_, _, _, _, _, _, _, q, _⟩ := hPB k hk
      exact q)
    (fun id b g h1 h2 h3 h4 => by
      refine ⟨hold0 id b g h1 h2 h3 h4, fun h => ?_⟩
      obtain ⟨q1, q2, _⟩ := m1.own id b g h1 h3 h4
      rcases h with h | h
      · exact q2 h
      · rcases hm'.new g h with h | h | h
        · exact q2 h
        · exact absurd q1 (by have : w.heap.size ≤ g := h; omega)
        · exact hold0 id b g h1 h2 h3 h4 h)
    (fun id b h => by
      rw [qAK] at h
      cases hv : look id (renB (qAR ren') (V' ++ R')) with
      | none =>
        rw [hv] at h
        obtain ⟨rfl, _⟩ := qDI (h : look id (qCO (qAR ren) R) = some b)
        exact ⟨trivial, trivial, fun h => by cases h⟩
      | some b1 =>
        rw [hv] at h
        have h : b1 = b := by simpa using h
        subst h
        obtain ⟨i, b0, q1, q2, rfl, rfl⟩ := qC3 ho' hv
        refine ⟨?_, ?_, fun hl g hg => ?_⟩
        · have hb1 := hm'.box i b0 q1
          have hb2 : qB6 (fun i => ρ2 (qAR ren' i)) I2 w' i b0 := by
            have hcl := hm'.clo i b0 q1
            cases b0 with
            | var T cs =>
              obtain ⟨g, us, z1, z2, z3⟩ := hb1
              refine ⟨g, us, (hval q1).trans z1, z2, qBf.ext (β := V' ++ R') ⟨hmono, fun j hj => ?_⟩ true cs _ hcl z3⟩
              obtain ⟨bj, hbj⟩ := Option.ne_none_iff_exists'.1 hj
              exact hval hbj
            | row E sz es =>
              obtain ⟨xs, z1, z2⟩ := hb1
              have e0 := hval q1
              refine ⟨xs, ?_, RepR.ext hmono sz es xs z2⟩
              show w'.ownsRow 0 E sz (ρ2 (qAR ren' i)) es.length xs
              rw [e0]; exact z1
            | frz sz es =>
              show RepD I2 w' (.sl sz es) (ρ2 (qAR ren' i))
              rw [hval q1]; exact RepD.ext hmono _ _ hb1
            | itr s pos =>
              obtain ⟨g, z1, z2⟩ := hb1
              exact ⟨g, (hval q1).trans z1, z2⟩
            | dead => trivial
          exact qB6.unren hb2
        · have hd : ∀ j, dom (V' ++ R') j → dom ((renB (qAR ren') (V' ++ R') ++ qCO (qAR ren) R) ++ (U ++ γ)) (qAR ren' j) := fun j hj => by
            obtain ⟨bj, hbj⟩ := Option.ne_none_iff_exists'.1 hj
            obtain ⟨b3, hb3⟩ := qCW (π := qAR ren') hbj
            unfold dom
            rw [qAK, qAK, hb3]; simp
          have hcl := hm'.clo i b0 q1
          cases b0 with
          | var T cs => exact A.insB_ren hd cs hcl
          | _ => trivial
        · rw [qBM] at hl
          obtain ⟨z1, z2, z3, z4⟩ := hlive q1 hl g hg
          refine ⟨z1, z2, z3, fun id2 b2 y1 y2 y3 y4 => ?_⟩
          rcases z4 with z4 | z4
          · exact absurd (m1.own id2 b2 g y1 y3 y4).1 (by omega)
          · exact hold0 id2 b2 g y1 y2 y3 y4 z4)
    (fun i j b b' g h h' hl hl' hg hg' => by
      have hsplit : ∀ {id : Nat} {b : Box}, look id (renB (qAR ren') (V' ++ R') ++ qCO (qAR ren) R) = some b → b.live = true → look id (renB (qAR ren') (V' ++ R')) = some b := fun {id b} h hl => by
        rw [qAK] at h
        cases hv : look id (renB (qAR ren') (V' ++ R')) with
        | none =>
          rw [hv] at h
          obtain ⟨rfl, _⟩ := qDI (h : look id (qCO (qAR ren) R) = some b)
          cases hl
        | some b1 => rw [hv] at h; simpa using h
      obtain ⟨i0, b0, q1, _, rfl, rfl⟩ := qC3 ho' (hsplit h hl)
      obtain ⟨j0, b0', q2, _, rfl, rfl⟩ := qC3 ho' (hsplit h' hl')
      rw [hval q1] at hg
      rw [hval q2] at hg'
      rw [qBM] at hl hl'
      rw [hm'.inj i0 j0 b0 b0' g q1 q2 hl hl' hg hg'])
  rw [← List.append_assoc] at hmem
  exact ⟨ρ2, I2, hmem, x1.trans hx2 (fun i hi => qBp hi), hmono⟩

theorem Mem.deads {C : Ctx} {ρ' : Nat → Value} {I' : Nat → Prop} {w' : World} (h : Mem C [] ρ' I' w') {V : Bx} (hV : ∀ i b, look i V = some b → b = .dead) (ρ : Nat → Value) : Mem C V ρ I' w' where
  os := h.os
  tape := h.tape
  output := h.output
  size := h.size
  frame := h.frame
  imm := h.imm
  new := h.new
  box i b hi := by rw [hV i b hi]; trivial
  own i b g hi hl := by rw [hV i b hi] at hl; cases hl
  inj i j b b' g hi hj hl := by rw [hV i b hi] at hl; cases hl
  clo i b hi := by rw [hV i b hi]; trivial
  gl := h.gl
theorem Mem.none {C : Ctx} {β : Bx} {ρ : Nat → Value} {I : Nat → Prop} {w : World} (h : Mem C β ρ I w) : Mem C [] ρ I w where
  os := h.os
  tape := h.tape
  output := h.output
  size := h.size
  frame := h.frame
  imm := h.imm
  new := h.new
  box i b hi := by cases hi
  own i b g hi := by cases hi
  inj i j b b' g hi := by cases hi
  clo i b hi := by cases hi
  gl := h.gl
theorem At.none {C : Ctx} {s : St} {a : Act} {w : World} (h : At C s a w) : At C ⟨[], []⟩ a w := by
  obtain ⟨ρ, I, hm, hf⟩ := h
  exact ⟨ρ, I, hm.none, hf.defers, hf.size, hf.keep, fun t v ht => by cases ht⟩
structure PN (P : Program) (f : FuncId) (al : List A) (V R : Bx) (chain : List PanicEntry) : Prop where
  enters : qD9 P f
  calls : ∀ (ρ : Nat → Value) (I : Nat → Prop) (w : World) (vs : Array Value), Mem (qDA (V ++ R) ρ I w) (V ++ R) ρ I w → A.insB (V ++ R) al → qBf ρ I w false al vs.toList →
    Calls P f vs w fun e w' => e = .panicked chain ∧ ∃ ρ' I', Mem (qDA (V ++ R) ρ I w) [] ρ' I' w'
def deadV (V : Bx) : Bx := V.map fun p => (p.1, .dead)
theorem look_deadV {i : Nat} {b : Box} : ∀ {V : Bx}, look i (deadV V ++ []) = some b → b = .dead
  | [], h => by cases h
  | p :: V, h => by
    have h : (if p.1 = i then some Box.dead else look i (deadV V ++ [])) = some b := h
    split at h
    · injection h with h; exact h.symm
    · exact look_deadV h
def panE (chain : List PanicEntry) : Exit → St → Prop
  | .panic c, _ => c = chain
  | _, _ => False
section
variable {P : Program}
theorem qBj {f : FuncId} {fn : Func} {c : Code} {al : List A} {V R : Bx} {chain : List PanicEntry} (hf : P.funcs[f]? = some fn) (hb : fn.body = some c) (hn : (fn.name == "runtime.NumGoroutine") = false) (hmx : P.follows .mixedOrders = true) (hok : qBP (fun _ => false) fn.ntmps c = true) (hds : al.length ≤ fn.ntmps)
    (h : AW P c (panE chain) ⟨argA 0 al, V ++ R⟩) : PN P f al V R chain := by
  refine ⟨qCk hf hb hn, fun ρ I w vs hm hin hr => ?_⟩
  refine calls_of_wp hf hb ?_
  have hvl := qBO hr
  rw [Array.length_toList] at hvl
  have hget : ∀ {i : Nat} {v : A}, al[i]? = some v → ∃ u, RepA ρ I w v u ∧ (vs ++ Array.replicate (fn.ntmps - vs.size) undef).getD i undef = u ∧ i < vs.size := fun {i v} hi => by
    obtain ⟨u, h3, h4, _⟩ := qB5 hr hi
    have hlt : i < vs.size := by rw [← Array.length_toList]; exact (List.getElem?_eq_some_iff.1 h3).1
    have h5 : vs[i]? = some u := by simpa using h3
    refine ⟨u, h4, ?_, hlt⟩
    rw [Array.getD_eq_getD_getElem?, Array.getElem?_append_left hlt, h5]; rfl
  let C : Ctx := { w0 := w, PB := PBof (V ++ R) ρ, I0 := I, N := fn.ntmps, K := fun _ => false, args := fun _ => undef }
  have hm' : Mem C (V ++ R) ρ I w := hm.ctx rfl rfl rfl
  have hat : At C ⟨argA 0 al, V ++ R⟩ { tmps := vs ++ Array.replicate (fn.ntmps - vs.size) undef, defers := [] } w := by
    refine ⟨ρ, I, hm', rfl, ?_, fun t ht => (by cases ht), fun t v ht => ?_⟩
    · show (vs ++ Array.replicate (fn.ntmps - vs.size) undef).size = fn.ntmps
      simp; omega
    · obtain ⟨i, h1, h2⟩ := qDx ht
      rw [Nat.zero_add] at h1
      subst h1
      obtain ⟨u, h4, h5, h6⟩ := hget h2
      refine ⟨by show t < fn.ntmps; omega, A.insB_mem hin v (List.mem_of_getElem? h2), ?_⟩
      show RepA ρ I w v ((vs ++ Array.replicate (fn.ntmps - vs.size) undef).getD t undef)
      rw [h5]; exact h4
  refine wp_mono (qBy hmx c _ _ _ w (C := C) hok h hat) fun en a' w' hq => ?_
  obtain ⟨s, hq, ha⟩ := hq
  cases en with
  | panic ch =>
    have hq : ch = chain := hq
    subst hq
    obtain ⟨ρ2, J, hm2, hfr⟩ := ha
    exact ⟨hfr.defers, rfl, ρ2, J, (hm2.none).ctx rfl rfl rfl⟩
  | _ => exact hq.elim
theorem qBe {x : Operand} {args : Array Operand} {ts : Array TypeId} {f : FuncId} {first captured : List A} {al : List A} {V R : Bx} {chain : List PanicEntry} {e : Operand → A} {β : Bx} {ty : TypeId} (ren : List (Nat × Nat)) {ups : Bx} {rd : List Nat}
    (hx : e x = .fn (.func f) first captured) (hpc : PN P f al V R chain) (has : (first ++ args.toList.map e ++ captured).map (frzX β) = A.rens (qAR ren) al)
    (hb : keepB (qAR ren) (qB3 β (first ++ args.toList.map e ++ captured) ++ β) (V ++ R)) (ho : qDP (qAR ren) (V ++ R) = true) (hin : inBb (V ++ R) (V ++ R)) (hia : A.insB (V ++ R) al)
    (hlv : V.all (fun p => p.2.live) = true) (ho' : qDP (qAR ren) (deadV V ++ []) = true)
    (hups : ups = renB (qAR ren) (deadV V ++ []) ++ qCO (qAR ren) R ++ qB3 β (first ++ args.toList.map e ++ captured)) (hrd : rd = (V ++ R).map (fun p => qAR ren p.1) ++ (first ++ args.toList.map e ++ captured).flatMap idsV) :
    Pans P (.call { callee := .value x, args := args, argTypes := ts }) ty e β chain ups rd := by
  intro C γ hag ρ I w hm a hops o hop hty K Q hK
  obtain ⟨fi, ca, h1, h2, h3⟩ := qEn hx hops
  obtain ⟨I1, hmc, hre, hnext⟩ := callX_mem (V' := deadV V) (R' := []) ren ren has hb ho hin (by simp [deadV]) (by simp) hlv ho' (by rfl) hups hrd hag hm h2 h3
  unfold Oper.wp
  rw [qER hpc.enters rfl h1 o hop, Oper.upon_enter]
  refine (hpc.calls _ I1 w _ hmc hia hre).mono fun en w' ⟨he, ρ', I', hm'⟩ => ?_
  subst he
  obtain ⟨ρ2, I2, q1, q2, _⟩ := hnext w' (fun i => ρ (qAR ren i)) I' (fun _ _ => rfl) (hm'.deads (fun i b hi => look_deadV hi) _)
  exact hK ρ2 I2 w' q1 q2
theorem pans_panic {x : Operand} {T : TypeId} {u : Value} {e : Operand → A} {β : Bx} {ty : TypeId} (hx : e x = .d (.sc (.iface T u))) : Pans P (.panic x) ty e β [{ v := .iface T u, recovered := false }] [] [] := by
  intro C γ hag ρ I w hm a hops o hop hty K Q hK
  have hv : a.eval x = .iface T u := by
    have := (hops x (by simp [Op.operands])).2
    rw [hx] at this
    exact qBl this
  unfold Oper.wp
  have hr : (execOp a.eval o).run P w = .halt (.panic (.iface T u)) w := by
    unfold execOp
    rw [hop]
    simp only [hv]
    simp [Instr.panic, go_sem]
  rw [hr]
  exact hK ρ I w hm (Ext.refl _ _ _ _)
theorem qBL {id : Nat} {l pre post : List Oper} {dst : Option Nat} {op : Op} {ty : TypeId} {pos : String} {af : Array Edge} {Q : Exit → St → Prop} {σ : Sl} {β : Bx} (hmx : P.follows .mixedOrders = true) (hl : l = pre ++ ⟨dst, op, ty, pos, af, none⟩ :: post)
    (h : runP P l pre σ β fun σ' β' => ∃ chain ups rd, Pans P op ty (ev σ') β' chain ups rd ∧ Q (.panic chain) ⟨σ', ups ++ β'⟩) : AW P (.region id l.toArray false) Q ⟨σ, β⟩ := by
  refine .inr fun C a w hc ha => ?_
  obtain ⟨ρ, I, hm, hf⟩ := ha
  refine wp_region_list ?_
  have hc : qDt C.K C.N l = true := hc
  have key : ∀ (ops : List Oper) (σ : Sl) (β : Bx) (ρ : Nat → Value) (I : Nat → Prop) (w : World) (a : Act), qDt C.K C.N ops = true → runP P l ops σ β (fun σ' β' => ∃ chain ups rd, Pans P op ty (ev σ') β' chain ups rd ∧ Q (.panic chain) ⟨σ', ups ++ β'⟩) → Mem C β ρ I w → Fr C σ β ρ I w a →
      wpList P l.toArray (lift C Q) (ops ++ ⟨dst, op, ty, pos, af, none⟩ :: post) a w := by
    intro ops
    induction ops with
    | nil =>
      rintro σ β ρ I w a _ ⟨chain, ups, rd, hp, hq⟩ hm hf
      refine wpList_step fun K' hK' => ?_
      rw [if_pos (by simp [Region.wanted])]
      refine hp C β (fun _ _ => rfl) ρ I w hm a (fun x _ => hf.ev hm x) _ rfl rfl K' (lift C Q) fun ρ' I' w' m1 x1 => ⟨_, hq, ρ', I', m1, hf.defers, hf.size, hf.keep, fun t v ht => ?_⟩
      obtain ⟨k1, k2, k3⟩ := hf.val t v ht
      exact ⟨k1, A.inB_mono (fun i hi => qBp hi) v k2, RepA.ext x1 v _ k2 k3⟩
    | cons o r ih =>
      rintro σ β ρ I w a hd ⟨v, ups, rd, hs, h⟩ hm hf
      simp only [qDt, List.all_cons, Bool.and_eq_true] at hd
      refine wpList_step fun K' hK' => ?_
      refine qEB hs (fun _ _ => rfl) (fun _ _ => rfl) hm hf K' _ fun vv ρ' I' w' h1 h2 h3 h4 => hK' _ _ ?_
      refine ih _ _ ρ' I' w' _ hd.2 h h1 (hf.put h2 (fun t ht => ?_) h3 h4)
      have := hd.1
      rw [ht] at this
      simpa using this
  have hpre : qDt C.K C.N pre = true := by
    rw [hl] at hc
    unfold qDt at hc ⊢
    rw [List.all_append, Bool.and_eq_true] at hc
    exact hc.1
  have := key pre σ β ρ I w a hpre h hm hf
  rw [← hl] at this
  simpa using this
end
end Go.Proofs.YtlpnnnmdkglkcaaDoor

