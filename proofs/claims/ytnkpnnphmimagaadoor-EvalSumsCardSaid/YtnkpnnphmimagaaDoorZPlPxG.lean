/-
  The pure layer: contracts whose result may name boxes: pointers to variables, old ones or new. No condition.
-/
import Derived.Test.YtnkpnnphmimagaaDoorZPlPxF
namespace Go.Proofs.YtnkpnnphmimagaaDoor
set_option linter.unusedSimpArgs false
set_option linter.unusedVariables false
open Go.RowKit

structure PG (P : Program) (f : FuncId) (al : List A) (V R : Bx) (r : A) (V' R' : Bx) : Prop where
  enters : Enters P f
  calls : ∀ (ρ : Nat → Value) (I : Nat → Prop) (w : World) (vs : Array Value), Mem (ctxOf (V ++ R) ρ I w) (V ++ R) ρ I w → A.insB (V ++ R) al → RepAs ρ I w false al vs.toList →
    Calls P f vs w fun e w' => ∃ v ρ' I', e = .returned v ∧ (∀ p ∈ V', ρ' p.1 = ρ p.1) ∧ Mem (ctxOf (V ++ R) ρ I w) (V' ++ R') ρ' I' w' ∧ RepA ρ' I' w' r v
def resA1 : List A → A
  | [v] => v
  | vs => .tu vs
def RetG (P : Program) (rs : List ResultVar) (r : A) (al : List A) (V' R' : Bx) (s : St) : Prop := ∃ vs l, resVs P s rs vs ∧ SubA (resA1 (vs.map (frzX s.β))) (r.ren (renOf l)) ∧ Forget l ⟨s.σ, frzXsU s.β vs ++ s.β⟩ ⟨keptSF 0 al, V' ++ R'⟩
def retG (P : Program) (rs : List ResultVar) (r : A) (al : List A) (V' R' : Bx) : Exit → St → Prop
  | .normal, s => RetG P rs r al V' R' s
  | .ret, s => RetG P rs r al V' R' s
  | _, _ => False
theorem repA_res {ρ : Nat → Value} {I : Nat → Prop} {w : World} : ∀ {l : List A} {us : List Value}, RepAs ρ I w false l us → RepA ρ I w (resA1 l) (if h : us.toArray.size = 1 then us.toArray[0] else .tuple us.toArray)
  | [], us, h => by
    cases h
    exact ⟨#[], rfl, rfl⟩
  | [a], us, ⟨u, us', h1, _, h3, h4⟩ => by
    cases h4
    subst h1
    exact h3
  | a :: b :: l, us, h => by
    obtain ⟨u, us', h1, h2, h3, u2, us2, h4, h5⟩ := h
    subst h1 h4
    rw [dif_neg (by simp)]
    exact ⟨_, rfl, u, _, rfl, h2, h3, u2, us2, rfl, h5⟩
section
variable {P : Program}
theorem pg_of_aw {f : FuncId} {fn : Func} {c : Code} {al : List A} {V R V' R' : Bx} {r : A} {rs : List ResultVar} (hf : P.funcs[f]? = some fn) (hb : fn.body = some c) (hn : (fn.name == "runtime.NumGoroutine") = false) (hmx : P.follows .mixedOrders = true) (hok : codeOk (keptKF al) fn.ntmps c = true) (hds : al.length ≤ fn.ntmps)
    (hrs : fn.results = rs.toArray) (hV : V'.all (fun p => hasPxF p.1 al) = true) (h : AW P c (retG P rs r al V' R') ⟨argA 0 al, V ++ R⟩) : PG P f al V R r V' R' := by
  refine ⟨enters_of hf hb hn, fun ρ I w vs hm hin hr => ?_⟩
  refine calls_of_wp hf hb ?_
  have hvl := repAs_len hr
  rw [Array.length_toList] at hvl
  have hget : ∀ {i : Nat} {v : A}, al[i]? = some v → ∃ u, vs[i]? = some u ∧ RepA ρ I w v u ∧ (vs ++ Array.replicate (fn.ntmps - vs.size) undef).getD i undef = u ∧ i < vs.size := fun {i v} hi => by
    obtain ⟨u, h3, h4, _⟩ := repAs_get hr hi
    have hlt : i < vs.size := by rw [← Array.length_toList]; exact (List.getElem?_eq_some_iff.1 h3).1
    have h5 : vs[i]? = some u := by simpa using h3
    refine ⟨u, h5, h4, ?_, hlt⟩
    rw [Array.getD_eq_getD_getElem?, Array.getElem?_append_left hlt, h5]; rfl
  let C : Ctx := { w0 := w, PB := PBof (V ++ R) ρ, I0 := I, N := fn.ntmps, K := keptKF al, args := fun t => (vs ++ Array.replicate (fn.ntmps - vs.size) undef).getD t undef }
  have hm' : Mem C (V ++ R) ρ I w := hm.ctx rfl rfl rfl
  have hat : At C ⟨argA 0 al, V ++ R⟩ { tmps := vs ++ Array.replicate (fn.ntmps - vs.size) undef, defers := [] } w := by
    refine ⟨ρ, I, hm', rfl, ?_, fun t _ => rfl, fun t v ht => ?_⟩
    · show (vs ++ Array.replicate (fn.ntmps - vs.size) undef).size = fn.ntmps
      simp; omega
    · obtain ⟨i, h1, h2⟩ := argA_look ht
      rw [Nat.zero_add] at h1
      subst h1
      obtain ⟨u, h3, h4, h5, h6⟩ := hget h2
      refine ⟨by show t < fn.ntmps; omega, A.insB_mem hin v (List.mem_of_getElem? h2), ?_⟩
      show RepA ρ I w v ((vs ++ Array.replicate (fn.ntmps - vs.size) undef).getD t undef)
      rw [h5]; exact h4
  have hfin : ∀ s a' w', RetG P rs r al V' R' s → At C s a' w' → a'.defers = [] ∧ ∃ v, (results fn a'.tmps).run P w' = .ok v w' ∧
      (∃ v' ρ' I', Ending.returned v = .returned v' ∧ (∀ p ∈ V', ρ' p.1 = ρ p.1) ∧ Mem (ctxOf (V ++ R) ρ I w) (V' ++ R') ρ' I' w' ∧ RepA ρ' I' w' r v') := by
    rintro s a' w' ⟨vs', l, h1, hsub, hfg⟩ ⟨ρ2, J, hm2, hfr⟩
    obtain ⟨us, k1, k2, k3⟩ := resVs_run hm2 hfr h1
    obtain ⟨J', m1, x1, q0, r1, _⟩ := freeze_valsX _ _ s.β J hm2 k2 k3
    have hul := repAs_len r1
    have hfr1 : Fr C s.σ (frzXsU s.β vs' ++ s.β) ρ2 J' w' a' := ⟨hfr.defers, hfr.size, hfr.keep, fun t v ht => by
      obtain ⟨q1, q2, q3⟩ := hfr.val t v ht
      exact ⟨q1, A.inB_mono (fun i hi => dom_append hi) v q2, RepA.ext x1 v _ q2 q3⟩⟩
    have m2 := hfg.mem m1
    have f2 := hfg.fr hfr1
    refine ⟨hfr.defers, (if h : us.toArray.size = 1 then us.toArray[0] else .tuple us.toArray), ?_, _, _, J', rfl, fun p hp => ?_, m2.ctx rfl rfl rfl, ?_⟩
    · have hrm : ∀ fn' : Func, fn'.results = rs.toArray → results fn' a'.tmps = (do
          let vs ← rs.toArray.mapM (resRun a'.tmps)
          pure (if h : vs.size = 1 then vs[0] else .tuple vs)) := fun fn' h' => by
        unfold results
        rw [h']
        congr 1
      rw [hrm fn hrs, List.mapM_toArray]
      simp only [map_eq_pure_bind, bind_assoc, pure_bind, Sem.run_bind, k1, Result.andThen_ok, Sem.run_pure]
    · obtain ⟨i, a0, hi, hk0, hid⟩ := hasPxF_get (List.all_eq_true.1 hV p hp)
      obtain ⟨_, _, q2⟩ := f2.val i a0 (by have := keptSF_look (k := 0) hi hk0; rwa [Nat.zero_add] at this)
      obtain ⟨u, _, z2, z3, _⟩ := hget hi
      have hk := hfr.keep i (by show keptKF al i = true; unfold keptKF; rw [hi]; exact hk0)
      have hk : a'.tmps.getD i undef = u := by rw [hk]; exact z3
      rw [hk] at q2
      exact (pxIn_same hid z2 q2).symm
    · exact RepA.ren _ r _ (hsub _ _ _ _ (repA_res r1))
  refine wp_mono (aw_sound hmx c _ _ _ w (C := C) hok h hat) fun en a' w' hq => ?_
  obtain ⟨s, hq, ha⟩ := hq
  cases en with
  | normal => exact hfin s a' w' hq ha
  | ret => exact hfin s a' w' hq ha
  | _ => exact hq.elim
end
section
variable {P : Program} {dst : Option Nat} {ty : TypeId} {e : Operand → A} {β : Bx}
theorem does_callG {x : Operand} {args : Array Operand} {ts : Array TypeId} {f : FuncId} {first captured : List A} {al : List A} {V R V' R' : Bx} {r : A} (ren ren' : List (Nat × Nat)) {ups : Bx} {rd : List Nat}
    (hx : e x = .fn (.func f) first captured) (hpc : PG P f al V R r V' R') (has : (first ++ args.toList.map e ++ captured).map (frzX β) = A.rens (renOf ren) al)
    (hb : keepB (renOf ren) (frzXsU β (first ++ args.toList.map e ++ captured) ++ β) (V ++ R)) (ho : onceB (renOf ren) (V ++ R) = true) (hin : inBb (V ++ R) (V ++ R)) (hia : A.insB (V ++ R) al)
    (hkeys : V'.map (·.1) = V.map (·.1)) (hvv : V'.all (fun p => renOf ren' p.1 == renOf ren p.1) = true) (hlv : V.all (fun p => p.2.live) = true)
    (ho' : onceB (renOf ren') (V' ++ R') = true) (hfresh : R'.all (fun p => (look (renOf ren' p.1) (frzXsU β (first ++ args.toList.map e ++ captured) ++ β)).isNone) = true) (hin' : inBb (V' ++ R') (V' ++ R')) (hir : r.inB (V' ++ R'))
    (hups : ups = renB (renOf ren') (V' ++ R') ++ deadB (renOf ren) R ++ frzXsU β (first ++ args.toList.map e ++ captured)) (hrd : rd = (V ++ R).map (fun p => renOf ren p.1) ++ (first ++ args.toList.map e ++ captured).flatMap idsV) :
    Does P dst (.call { callee := .value x, args := args, argTypes := ts }) ty e β (r.ren (renOf ren')) ups rd := by
  subst hups hrd
  generalize hL : first ++ args.toList.map e ++ captured = L at *
  intro C γ hag ρ I w hm a hops o hop hd hty K Q hK
  obtain ⟨fi, ca, h1, h2, h3⟩ := call_args hx hops
  rw [hL] at h2 h3
  obtain ⟨e1, e2⟩ := frzX_agree (fun id hid => hag id (List.mem_append_left _ (List.mem_append_right _ hid)))
  obtain ⟨I1, m1, x1, b1, r1, _⟩ := freeze_valsX _ _ γ I hm h2 h3
  rw [e1, has] at r1
  rw [e2] at m1
  generalize hU : frzXsU β L = U at *
  have hagU : ∀ id, look id γ = look id β → look id (U ++ γ) = look id (U ++ β) := fun id h => by rw [look_append, look_append, h]
  have hkb : ∀ {i : Nat} {b : Box}, look i (V ++ R) = some b → look (renOf ren i) (U ++ γ) = some (b.ren (renOf ren)) := fun {i b} hi => by
    rw [hagU _ (hag _ (List.mem_append_left _ (List.mem_append_left _ (List.mem_map.2 ⟨(i, b), look_mem hi, rfl⟩))))]
    exact keepB_look hb hi
  have hfr : ∀ p ∈ R', look (renOf ren' p.1) (U ++ γ) = none := fun p hp => by
    have h0 := List.all_eq_true.1 hfresh p hp
    have h0 : look (renOf ren' p.1) (U ++ β) = none := by simpa using h0
    have hmem : renOf ren' p.1 ∈ (renB (renOf ren') (V' ++ R') ++ deadB (renOf ren) R ++ U).map (·.1) := by
      rw [List.map_append, List.map_append]
      refine List.mem_append_left _ (List.mem_append_left _ ?_)
      exact List.mem_map.2 ⟨(renOf ren' p.1, p.2.ren (renOf ren')), List.mem_map.2 ⟨p, List.mem_append_right _ hp, rfl⟩, rfl⟩
    rw [hagU _ (hag _ (List.mem_append_right _ hmem))]
    exact h0
  have hmc : Mem (ctxOf (V ++ R) (fun i => ρ (renOf ren i)) I1 w) (V ++ R) (fun i => ρ (renOf ren i)) I1 w :=
    { os := rfl, tape := rfl, output := rfl, size := Nat.le_refl _, frame := fun _ _ _ => rfl, imm := m1.imm, new := fun g hg => .inl hg,
      box := fun i b hi => BoxRep.ren (m1.box _ _ (hkb hi)),
      own := fun i b g hi hl hg => by
        obtain ⟨q1, q2, _⟩ := m1.own _ _ g (hkb hi) (by rw [live_ren]; exact hl) hg
        exact ⟨q1, q2, .inr ⟨i, b, hi, hl, hg⟩⟩,
      inj := fun i j b b' g hi hj hl hl' hg hg' => onceB_inj ho (look_mem hi) (look_mem hj) (m1.inj _ _ _ _ g (hkb hi) (hkb hj) (by rw [live_ren]; exact hl) (by rw [live_ren]; exact hl') hg hg'),
      clo := fun i b hi => inBb_look hin hi,
      gl := m1.gl }
  unfold Oper.wp
  rw [run_call hpc.enters rfl h1 o hop, Oper.upon_enter]
  have hre : RepAs (fun i => ρ (renOf ren i)) I1 w false al (fi ++ args.map a.eval ++ ca).toList := RepAs.ren (renOf ren) false al _ r1
  refine (hpc.calls _ I1 w _ hmc hia hre).mono fun en w' ⟨v, ρ', I', he, hρ, hm', hr'⟩ => ?_
  subst he
  let fresh : Nat → Prop := fun i => ∃ p ∈ R', renOf ren' p.1 = i
  have hdec : ∀ i, fresh i ∨ ¬ fresh i := fun i => Classical.em _
  -- where each box lies behind the call
  obtain ⟨ρ2, hρ2, hρ3⟩ : ∃ ρ2 : Nat → Value, (∀ p ∈ R', ρ2 (renOf ren' p.1) = ρ' p.1) ∧ ∀ i, ¬ fresh i → ρ2 i = ρ i := by
    classical
    refine ⟨fun i => if h : fresh i then ρ' h.choose.1 else ρ i, fun p hp => ?_, fun i hi => dif_neg hi⟩
    have hf : fresh (renOf ren' p.1) := ⟨p, hp, rfl⟩
    simp only [dif_pos hf]
    obtain ⟨hq1, hq2⟩ := hf.choose_spec
    exact congrArg ρ' (onceB_inj ho' (b := hf.choose.2) (b' := p.2) (List.mem_append_right _ hq1) (List.mem_append_right _ hp) hq2)
  have hvk : ∀ {i : Nat} {b : Box}, look i (V' ++ R') = some b → (i, b) ∈ V' ∨ (i, b) ∈ R' := fun {i b} h => List.mem_append.1 (look_mem h)
  have hvar : ∀ {i : Nat} {b : Box}, (i, b) ∈ V' → renOf ren' i = renOf ren i ∧ ∃ b0, look i (V ++ R) = some b0 ∧ b0.live = true := fun {i b} h => by
    refine ⟨by simpa using List.all_eq_true.1 hvv _ h, ?_⟩
    have hm0 : i ∈ V.map (·.1) := by rw [← hkeys]; exact List.mem_map.2 ⟨_, h, rfl⟩
    obtain ⟨b0, hb0⟩ := look_some_of hm0
    refine ⟨b0, by rw [look_append, hb0]; rfl, List.all_eq_true.1 hlv _ (look_mem hb0)⟩
  have hnf : ∀ {i : Nat} {b : Box}, (i, b) ∈ V' → ¬ fresh (renOf ren i) := fun {i b} h hf => by
    obtain ⟨p, hp, hpe⟩ := hf
    obtain ⟨_, b0, hb0, _⟩ := hvar h
    have := hfr p hp
    rw [hpe, hkb hb0] at this
    cases this
  have hval : ∀ {i : Nat} {b : Box}, look i (V' ++ R') = some b → ρ2 (renOf ren' i) = ρ' i := fun {i b} h => by
    rcases hvk h with h | h
    · obtain ⟨q1, _⟩ := hvar h
      rw [q1, hρ3 _ (hnf h)]
      exact (hρ (i, b) h).symm
    · exact hρ2 (i, b) h
  let I2 : Nat → Prop := fun g => I1 g ∨ I' g
  have hPB : ∀ g, PBof (V ++ R) (fun i => ρ (renOf ren i)) g → ∃ id b, look id (U ++ γ) = some b ∧ b.live = true ∧ blk (ρ id) = some g ∧ g < w.heap.size ∧ ¬ I1 g ∧ (C.w0.heap.size ≤ g ∨ C.PB g) ∧ ∃ i b0, look i (V ++ R) = some b0 ∧ renOf ren i = id := fun g ⟨i, b, hi, hl, hg⟩ => by
    obtain ⟨q1, q2, q3⟩ := m1.own _ _ g (hkb hi) (by rw [live_ren]; exact hl) hg
    exact ⟨_, _, hkb hi, by rw [live_ren]; exact hl, hg, q1, q2, q3, i, b, hi, rfl⟩
  have hupsL : ∀ {i : Nat}, (∃ b, look i (V ++ R) = some b) → look (renOf ren i) (renB (renOf ren') (V' ++ R') ++ deadB (renOf ren) R) ≠ none := fun {i} ⟨b, hb⟩ => by
    rw [look_append] at hb
    rw [look_append]
    cases hv : look i V with
    | some b1 =>
      have hm0 : i ∈ V'.map (·.1) := by rw [hkeys]; exact List.mem_map.2 ⟨_, look_mem hv, rfl⟩
      obtain ⟨b2, hb2⟩ := look_some_of hm0
      obtain ⟨q1, _⟩ := hvar (look_mem hb2)
      obtain ⟨b3, hb3⟩ := look_renB_of (π := renOf ren') (β := V' ++ R') (i := i) (b := b2) (by rw [look_append, hb2]; rfl)
      rw [← q1, hb3]; simp
    | none =>
      rw [hv] at hb
      have hb : look i R = some b := by simpa using hb
      obtain ⟨b2, hb2⟩ := look_some_of (l := deadB (renOf ren) R) (t := renOf ren i) (List.mem_map.2 ⟨(renOf ren i, .dead), List.mem_map.2 ⟨(i, b), look_mem hb, rfl⟩, rfl⟩)
      rw [hb2]
      cases look (renOf ren i) (renB (renOf ren') (V' ++ R')) <;> simp
  have hx2 : Ext (U ++ γ) ρ I1 w ρ2 I2 w' := ⟨⟨fun g h => .inl h, fun g h => by
    refine hm'.frame g (m1.imm g h) fun hp => ?_
    obtain ⟨_, _, _, _, _, _, q, _⟩ := hPB g hp
    exact q h⟩, fun i hi => hρ3 i fun ⟨p, hp, hpe⟩ => hi (by rw [← hpe]; exact hfr p hp)⟩
  have hmono : ExtI I' w' I2 w' := ⟨fun g h => .inr h, fun _ _ => rfl⟩
  have hold0 : ∀ id b g, look id (U ++ γ) = some b → look id (renB (renOf ren') (V' ++ R') ++ deadB (renOf ren) R) = none → b.live = true → blk (ρ id) = some g → ¬ PBof (V ++ R) (fun i => ρ (renOf ren i)) g := fun id b g h1 h2 h3 h4 hp => by
    obtain ⟨id2, b2, q1, q2, q3, _, _, _, i, b0, q4, q5⟩ := hPB g hp
    have := m1.inj id id2 b b2 g h1 q1 h3 q2 h4 q3
    rw [this, ← q5] at h2
    exact hupsL ⟨b0, q4⟩ h2
  have hlive : ∀ {i : Nat} {b : Box}, look i (V' ++ R') = some b → b.live = true → ∀ g, blk (ρ2 (renOf ren' i)) = some g → g < w'.heap.size ∧ ¬ I2 g ∧ (C.w0.heap.size ≤ g ∨ C.PB g) ∧ (w.heap.size ≤ g ∨ PBof (V ++ R) (fun i => ρ (renOf ren i)) g) := fun {i b} h hl g hg => by
    rw [hval h] at hg
    obtain ⟨q1, q2, q3⟩ := hm'.own i b g h hl hg
    refine ⟨q1, fun h0 => ?_, ?_, q3⟩
    · rcases h0 with h0 | h0
      · rcases q3 with q3 | q3
        · exact absurd (m1.imm g h0) (by have : w.heap.size ≤ g := q3; omega)
        · obtain ⟨_, _, _, _, _, _, q, _⟩ := hPB g q3
          exact q h0
      · exact q2 h0
    · rcases q3 with q3 | q3
      · exact .inl (Nat.le_trans m1.size q3)
      · obtain ⟨_, _, _, _, _, _, _, q, _⟩ := hPB g q3
        exact q
  have hmem := m1.upd (renB (renOf ren') (V' ++ R') ++ deadB (renOf ren) R) hx2 hm'.os hm'.tape hm'.output hm'.size
    (fun g h => by
      rcases h with h | h
      · exact Nat.lt_of_lt_of_le (m1.imm g h) hm'.size
      · exact hm'.imm g h)
    (fun g h => by
      rcases h with h | h
      · exact .inl h
      · rcases hm'.new g h with h | h | h
        · exact .inl h
        · exact .inr (.inl (Nat.le_trans m1.size h))
        · obtain ⟨_, _, _, _, _, _, _, q, _⟩ := hPB g h
          exact .inr q)
    (PBof (V ++ R) (fun i => ρ (renOf ren i))) (fun k hk hp => hm'.frame k hk hp) (fun k hk => by
      obtain ⟨_, _, _, _, _, _, _, q, _⟩ := hPB k hk
      exact q)
    (fun id b g h1 h2 h3 h4 => by
      refine ⟨hold0 id b g h1 h2 h3 h4, fun h => ?_⟩
      obtain ⟨q1, q2, _⟩ := m1.own id b g h1 h3 h4
      rcases h with h | h
      · exact q2 h
      · rcases hm'.new g h with h | h | h
        · exact q2 h
        · exact absurd q1 (by have : w.heap.size ≤ g := h; omega)
        · exact hold0 id b g h1 h2 h3 h4 h)
    (fun id b h => by
      rw [look_append] at h
      cases hv : look id (renB (renOf ren') (V' ++ R')) with
      | none =>
        rw [hv] at h
        obtain ⟨rfl, _⟩ := look_deadB (h : look id (deadB (renOf ren) R) = some b)
        exact ⟨trivial, trivial, fun h => by cases h⟩
      | some b1 =>
        rw [hv] at h
        have h : b1 = b := by simpa using h
        subst h
        obtain ⟨i, b0, q1, q2, rfl, rfl⟩ := look_renB ho' hv
        refine ⟨?_, ?_, fun hl g hg => ?_⟩
        · have hb1 := hm'.box i b0 q1
          have hb2 : BoxRep (fun i => ρ2 (renOf ren' i)) I2 w' i b0 := by
            have hcl := hm'.clo i b0 q1
            cases b0 with
            | var T cs =>
              obtain ⟨g, us, z1, z2, z3⟩ := hb1
              refine ⟨g, us, (hval q1).trans z1, z2, RepAs.ext (β := V' ++ R') ⟨hmono, fun j hj => ?_⟩ true cs _ hcl z3⟩
              obtain ⟨bj, hbj⟩ := Option.ne_none_iff_exists'.1 hj
              exact hval hbj
            | row E sz es =>
              obtain ⟨xs, z1, z2⟩ := hb1
              have e0 := hval q1
              refine ⟨xs, ?_, RepR.ext hmono sz es xs z2⟩
              show w'.ownsRow 0 E sz (ρ2 (renOf ren' i)) es.length xs
              rw [e0]; exact z1
            | frz sz es =>
              show RepD I2 w' (.sl sz es) (ρ2 (renOf ren' i))
              rw [hval q1]; exact RepD.ext hmono _ _ hb1
            | itr s pos =>
              obtain ⟨g, z1, z2⟩ := hb1
              exact ⟨g, (hval q1).trans z1, z2⟩
            | dead => trivial
          exact BoxRep.unren hb2
        · have hd : ∀ j, dom (V' ++ R') j → dom ((renB (renOf ren') (V' ++ R') ++ deadB (renOf ren) R) ++ (U ++ γ)) (renOf ren' j) := fun j hj => by
            obtain ⟨bj, hbj⟩ := Option.ne_none_iff_exists'.1 hj
            obtain ⟨b3, hb3⟩ := look_renB_of (π := renOf ren') hbj
            unfold dom
            rw [look_append, look_append, hb3]; simp
          have hcl := hm'.clo i b0 q1
          cases b0 with
          | var T cs => exact A.insB_ren hd cs hcl
          | _ => trivial
        · rw [live_ren] at hl
          obtain ⟨z1, z2, z3, z4⟩ := hlive q1 hl g hg
          refine ⟨z1, z2, z3, fun id2 b2 y1 y2 y3 y4 => ?_⟩
          rcases z4 with z4 | z4
          · exact absurd (m1.own id2 b2 g y1 y3 y4).1 (by omega)
          · exact hold0 id2 b2 g y1 y2 y3 y4 z4)
    (fun i j b b' g h h' hl hl' hg hg' => by
      have hsplit : ∀ {id : Nat} {b : Box}, look id (renB (renOf ren') (V' ++ R') ++ deadB (renOf ren) R) = some b → b.live = true → look id (renB (renOf ren') (V' ++ R')) = some b := fun {id b} h hl => by
        rw [look_append] at h
        cases hv : look id (renB (renOf ren') (V' ++ R')) with
        | none =>
          rw [hv] at h
          obtain ⟨rfl, _⟩ := look_deadB (h : look id (deadB (renOf ren) R) = some b)
          cases hl
        | some b1 => rw [hv] at h; simpa using h
      obtain ⟨i0, b0, q1, _, rfl, rfl⟩ := look_renB ho' (hsplit h hl)
      obtain ⟨j0, b0', q2, _, rfl, rfl⟩ := look_renB ho' (hsplit h' hl')
      rw [hval q1] at hg
      rw [hval q2] at hg'
      rw [live_ren] at hl hl'
      rw [hm'.inj i0 j0 b0 b0' g q1 q2 hl hl' hg hg'])
  rw [hd]
  rw [← List.append_assoc] at hmem
  have hdr : ∀ j, dom (V' ++ R') j → dom (renB (renOf ren') (V' ++ R') ++ deadB (renOf ren) R ++ U ++ γ) (renOf ren' j) := fun j hj => by
    obtain ⟨bj, hbj⟩ := Option.ne_none_iff_exists'.1 hj
    obtain ⟨b3, hb3⟩ := look_renB_of (π := renOf ren') hbj
    unfold dom
    rw [look_append, look_append, look_append, hb3]; simp
  refine hK v ρ2 I2 w' hmem (x1.trans hx2 (fun i hi => dom_append hi)) (A.inB_ren hdr r hir) (RepA.unren _ r v (RepA.ext (β := V' ++ R') ⟨hmono, fun j hj => ?_⟩ r v hir hr'))
  obtain ⟨bj, hbj⟩ := Option.ne_none_iff_exists'.1 hj
  exact hval hbj
theorem does_callG' {x : Operand} {args : Array Operand} {ts : Array TypeId} {f : FuncId} {first captured : List A} {al : List A} {V R V' R' : Bx} {r : A} (ren ren' : List (Nat × Nat)) {ups : Bx} {rd : List Nat} {v : A}
    (hx : e x = .fn (.func f) first captured) (hpc : PG P f al V R r V' R') (has : (first ++ args.toList.map e ++ captured).map (frzX β) = A.rens (renOf ren) al)
    (hb : keepB (renOf ren) (frzXsU β (first ++ args.toList.map e ++ captured) ++ β) (V ++ R)) (ho : onceB (renOf ren) (V ++ R) = true) (hin : inBb (V ++ R) (V ++ R)) (hia : A.insB (V ++ R) al)
    (hkeys : V'.map (·.1) = V.map (·.1)) (hvv : V'.all (fun p => renOf ren' p.1 == renOf ren p.1) = true) (hlv : V.all (fun p => p.2.live) = true)
    (ho' : onceB (renOf ren') (V' ++ R') = true) (hfresh : R'.all (fun p => (look (renOf ren' p.1) (frzXsU β (first ++ args.toList.map e ++ captured) ++ β)).isNone) = true) (hin' : inBb (V' ++ R') (V' ++ R')) (hir : r.inB (V' ++ R'))
    (hups : ups = renB (renOf ren') (V' ++ R') ++ deadB (renOf ren) R ++ frzXsU β (first ++ args.toList.map e ++ captured)) (hrd : rd = (V ++ R).map (fun p => renOf ren p.1) ++ (first ++ args.toList.map e ++ captured).flatMap idsV) (hv : r.ren (renOf ren') = v) :
    Does P dst (.call { callee := .value x, args := args, argTypes := ts }) ty e β v ups rd := by
  subst hv
  exact does_callG ren ren' hx hpc has hb ho hin hia hkeys hvv hlv ho' hfresh hin' hir hups hrd
end
section
variable {P : Program} {rs : List ResultVar} {r : A} {al : List A} {V' R' : Bx} {s : St}
theorem xg_norm (h : RetG P rs r al V' R' s) : retG P rs r al V' R' .normal s := h
theorem xg_ret (h : RetG P rs r al V' R' s) : retG P rs r al V' R' .ret s := h
theorem retg_ok {vs : List A} {l : List (Nat × Nat)} (h1 : resVs P s rs vs) (h2 : SubA (resA1 (vs.map (frzX s.β))) (r.ren (renOf l))) (h4 : Forget l ⟨s.σ, frzXsU s.β vs ++ s.β⟩ ⟨keptSF 0 al, V' ++ R'⟩) : RetG P rs r al V' R' s := ⟨vs, l, h1, h2, h4⟩
end
end Go.Proofs.YtnkpnnphmimagaaDoor

