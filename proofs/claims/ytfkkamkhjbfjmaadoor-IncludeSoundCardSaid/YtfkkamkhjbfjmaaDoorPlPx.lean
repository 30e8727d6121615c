/-
  The pure layer: contracts whose arguments are pointers to the caller's variables, or functions with captured ones. No condition.
-/
import Derived.Test.YtfkkamkhjbfjmaaDoorPlEq
namespace Go.Proofs.YtfkkamkhjbfjmaaDoor
set_option linter.unusedSimpArgs false
set_option linter.unusedVariables false
open Go.RowKit

mutual
theorem RepA.unren {ρ : Nat → Value} {I : Nat → Prop} {w : World} (π : Nat → Nat) : ∀ (v : A) (x : Value), RepA (fun i => ρ (π i)) I w v x → RepA ρ I w (v.ren π) x
  | .d d, x, h => h
  | .ag cs, _, ⟨us, hx, hr⟩ => ⟨us, hx, RepAs.unren π true cs _ hr⟩
  | .tu cs, _, ⟨us, hx, hr⟩ => ⟨us, hx, RepAs.unren π false cs _ hr⟩
  | .pe sz es i off, _, h => h
  | .px id off, _, h => h
  | .pr id sz k off, _, h => h
  | .ow id n, _, h => h
  | .sx id n c, _, h => h
  | .fn f a b, _, ⟨us, vs, hx, h1, h2⟩ => ⟨us, vs, hx, RepAs.unren π false a _ h1, RepAs.unren π false b _ h2⟩
  | .gd x a, v, h => by
    unfold A.ren
    unfold RepA at h ⊢
    split at h
    · rename_i hx; rw [if_pos hx]; exact RepA.unren π a v h
    · rename_i hx; rw [if_neg hx]; exact h
  | .un, _, _ => trivial
theorem RepAs.unren {ρ : Nat → Value} {I : Nat → Prop} {w : World} (π : Nat → Nat) (o : Bool) : ∀ (ds : List A) (l : List Value), RepAs (fun i => ρ (π i)) I w o ds l → RepAs ρ I w o (A.rens π ds) l
  | [], _, h => h
  | d :: ds, _, ⟨u, us, hx, ho, hd, hr⟩ => ⟨u, us, hx, fun h => by rw [one_ren π d]; exact ho h, RepA.unren π d u hd, RepAs.unren π o ds us hr⟩
end
mutual
theorem A.inB_ren {β γ : Bx} {π : Nat → Nat} (h : ∀ i, dom β i → dom γ (π i)) : ∀ v : A, v.inB β → (v.ren π).inB γ
  | .d _, _ => trivial
  | .ag cs, hv => A.insB_ren h cs hv
  | .tu vs, hv => A.insB_ren h vs hv
  | .pe .., _ => trivial
  | .px _ _, hv => h _ hv
  | .pr _ _ _ _, hv => h _ hv
  | .ow _ _, hv => h _ hv
  | .sx _ _ _, hv => h _ hv
  | .fn _ a b, hv => ⟨A.insB_ren h a hv.1, A.insB_ren h b hv.2⟩
  | .gd x v, hv => fun hx => A.inB_ren h v (hv hx)
  | .un, _ => trivial
theorem A.insB_ren {β γ : Bx} {π : Nat → Nat} (h : ∀ i, dom β i → dom γ (π i)) : ∀ l : List A, A.insB β l → A.insB γ (A.rens π l)
  | [], _ => trivial
  | x :: r, hv => ⟨A.inB_ren h x hv.1, A.insB_ren h r hv.2⟩
end
theorem BoxRep.unren {ρ : Nat → Value} {I : Nat → Prop} {w : World} {π : Nat → Nat} {i : Nat} {b : Box} (h : BoxRep (fun i => ρ (π i)) I w i b) : BoxRep ρ I w (π i) (b.ren π) := by
  cases b with
  | var T cs => obtain ⟨g, us, h1, h2, h3⟩ := h; exact ⟨g, us, h1, h2, RepAs.unren π true cs _ h3⟩
  | row e sz es => exact h
  | frz sz es => exact h
  | dead => trivial

/-! ### arguments: data is frozen, pointers stay -/
def frzX (β : Bx) (v : A) : A := match frzV β v with
  | some d => .d d
  | none => v
def frzXU (β : Bx) (v : A) : Bx := match frzV β v with
  | some _ => frzVU β v
  | none => []
def frzXsU (β : Bx) : List A → Bx
  | [] => []
  | x :: r => frzXsU β r ++ frzXU β x
theorem frzX_congr {γ δ : Bx} (h : ∀ i, rowsOf δ i = rowsOf γ i) (v : A) : frzX δ v = frzX γ v ∧ frzXU δ v = frzXU γ v := by
  unfold frzX frzXU
  rw [(frzV_congr h v).1, (frzV_congr h v).2]
  exact ⟨rfl, rfl⟩
theorem frzXs_congr {γ δ : Bx} (h : ∀ i, rowsOf δ i = rowsOf γ i) : ∀ l : List A, l.map (frzX δ) = l.map (frzX γ) ∧ frzXsU δ l = frzXsU γ l
  | [] => ⟨rfl, rfl⟩
  | x :: r => by
    obtain ⟨h1, h2⟩ := frzX_congr h x
    obtain ⟨h3, h4⟩ := frzXs_congr h r
    simp only [List.map_cons, frzXsU, h1, h2, h3, h4, and_self]
theorem frz1U_dom {γ : Bx} : ∀ (a : A) {p : Nat × Box}, p ∈ frz1U γ a → look p.1 γ ≠ none := fun a p hp => by
  cases a with
  | ow id n =>
    simp only [frz1U] at hp
    split at hp
    · rename_i sz es hro
      simp only [List.mem_singleton] at hp
      subst hp
      unfold rowsOf at hro
      intro h0
      simp only at h0
      rw [h0] at hro
      cases hro
    · cases hp
  | _ => cases hp
theorem frz1sU_dom {γ : Bx} : ∀ (l : List A) {p : Nat × Box}, p ∈ frz1sU γ l → look p.1 γ ≠ none
  | [], p, hp => by cases hp
  | a :: l, p, hp => by
    rcases List.mem_append.1 hp with hp | hp
    · exact frz1sU_dom l hp
    · exact frz1U_dom a hp
theorem frzXU_dom {γ : Bx} (v : A) {p : Nat × Box} (hp : p ∈ frzXU γ v) : look p.1 γ ≠ none := by
  unfold frzXU at hp
  split at hp
  · unfold frzVU at hp
    split at hp
    · exact frz1sU_dom _ hp
    · exact frz1U_dom _ hp
  · cases hp
theorem freeze_valX {C : Ctx} {γ : Bx} {ρ : Nat → Value} {I : Nat → Prop} {w : World} (hm : Mem C γ ρ I w) {v : A} {u : Value} (hb : v.inB γ) (hr : RepA ρ I w v u) :
    ∃ I', Mem C (frzXU γ v ++ γ) ρ I' w ∧ Ext γ ρ I w ρ I' w ∧ (frzX γ v).inB γ ∧ RepA ρ I' w (frzX γ v) u ∧ ∀ i, rowsOf (frzXU γ v ++ γ) i = rowsOf γ i := by
  unfold frzX frzXU
  cases h : frzV γ v with
  | none => exact ⟨I, by simpa using hm, Ext.refl _ _ _ _, hb, hr, fun i => rfl⟩
  | some d =>
    obtain ⟨I', h1, h2, h3, h4⟩ := freeze_val hm hb hr h
    exact ⟨I', h1, h2, trivial, h3, h4⟩
theorem freeze_valsX {C : Ctx} {ρ : Nat → Value} {w : World} : ∀ (l : List A) (us : List Value) (γ : Bx) (I : Nat → Prop), Mem C γ ρ I w → A.insB γ l → RepAs ρ I w false l us →
    ∃ I', Mem C (frzXsU γ l ++ γ) ρ I' w ∧ Ext γ ρ I w ρ I' w ∧ A.insB γ (l.map (frzX γ)) ∧ RepAs ρ I' w false (l.map (frzX γ)) us ∧ ∀ i, rowsOf (frzXsU γ l ++ γ) i = rowsOf γ i
  | [], us, γ, I, hm, hb, hr => ⟨I, by simpa [frzXsU] using hm, Ext.refl _ _ _ _, trivial, hr, fun i => rfl⟩
  | v :: l, _, γ, I, hm, hb, ⟨u, us, rfl, ho, hv, hr⟩ => by
    obtain ⟨I1, m1, x1, b1, r1, c1⟩ := freeze_valX hm hb.1 hv
    have hd : ∀ i, dom γ i → dom (frzXU γ v ++ γ) i := fun i hi => dom_append hi
    obtain ⟨e1, e2⟩ := frzXs_congr c1 l
    obtain ⟨I2, m2, x2, b2, r2, c2⟩ := freeze_valsX l us (frzXU γ v ++ γ) I1 m1 (A.insB_mono hd l hb.2) (RepAs.ext x1 false l us hb.2 hr)
    have hd2 : ∀ i, dom (frzXU γ v ++ γ) i → dom γ i := fun i hi => by
      unfold dom at *
      rw [look_append] at hi
      intro h0
      rw [h0] at hi
      have : look i (frzXU γ v) ≠ none := by simpa using hi
      obtain ⟨b, hb'⟩ := Option.ne_none_iff_exists'.1 this
      exact frzXU_dom _ (look_mem hb') h0
    rw [e1] at b2 r2
    rw [e2, ← List.append_assoc] at m2 c2
    refine ⟨I2, m2, x1.trans x2 hd, ⟨b1, A.insB_mono hd2 _ b2⟩, ⟨u, us, rfl, fun h => by (cases h), RepA.ext (β := γ) ⟨x2.toExtI, fun _ _ => rfl⟩ _ u b1 r1, r2⟩, fun i => (c2 i).trans (c1 i)⟩
theorem frzX_agree {γ β : Bx} : ∀ {l : List A}, (∀ id ∈ l.flatMap idsV, look id γ = look id β) → l.map (frzX γ) = l.map (frzX β) ∧ frzXsU γ l = frzXsU β l
  | [], _ => ⟨rfl, rfl⟩
  | v :: l, h => by
    obtain ⟨a3, a4⟩ := frzX_agree (l := l) fun id hi => h id (by rw [List.flatMap_cons]; exact List.mem_append_right _ hi)
    have h1 : ∀ id ∈ [v].flatMap idsV, look id γ = look id β := fun id hi => h id (by rw [List.flatMap_cons]; exact List.mem_append_left _ (by simpa using hi))
    obtain ⟨b1, b2⟩ := frz_agree h1
    have e1 : frzV γ v = frzV β v := by
      simp only [frzVs] at b1
      cases h1 : frzV γ v <;> cases h2 : frzV β v <;> simp_all
    have e2 : frzVU γ v = frzVU β v := by simpa [frzVsU] using b2
    have e3 : frzX γ v = frzX β v := by unfold frzX; rw [e1]
    have e4 : frzXU γ v = frzXU β v := by unfold frzXU; rw [e1, e2]
    simp only [List.map_cons, frzXsU, e3, e4, a3, a4, and_self]

/-! ### the contract -/
def PBof (β : Bx) (ρ : Nat → Value) (g : Nat) : Prop := ∃ id b, look id β = some b ∧ b.live = true ∧ blk (ρ id) = some g
def ctxOf (β : Bx) (ρ : Nat → Value) (I : Nat → Prop) (w : World) : Ctx := { w0 := w, PB := PBof β ρ, I0 := I, N := 0, K := fun _ => false, args := fun _ => undef }
/-- Variables V and rows R come in, V' and R' go out: the variables lie where they lay. -/
structure PX (P : Program) (f : FuncId) (al : List A) (V R : Bx) (r : D) (V' R' : Bx) : Prop where
  enters : Enters P f
  calls : ∀ (ρ : Nat → Value) (I : Nat → Prop) (w : World) (vs : Array Value), Mem (ctxOf (V ++ R) ρ I w) (V ++ R) ρ I w → A.insB (V ++ R) al → RepAs ρ I w false al vs.toList →
    Calls P f vs w fun e w' => ∃ v ρ' I', e = .returned v ∧ (∀ p ∈ V', ρ' p.1 = ρ p.1) ∧ Mem (ctxOf (V ++ R) ρ I w) (V' ++ R') ρ' I' w' ∧ RepD I' w' r v
theorem Mem.ctx {C C' : Ctx} {β : Bx} {ρ : Nat → Value} {I : Nat → Prop} {w : World} (h : Mem C β ρ I w) (h1 : C'.w0 = C.w0) (h2 : C'.PB = C.PB) (h3 : C'.I0 = C.I0) : Mem C' β ρ I w := by
  refine ⟨h1 ▸ h.os, h1 ▸ h.tape, h1 ▸ h.output, h1 ▸ h.size, ?_, h.imm, ?_, h.box, ?_, h.inj, h.clo, h.gl⟩
  · rw [h1, h2]; exact h.frame
  · rw [h1, h2, h3]; exact h.new
  · rw [h1, h2]; exact h.own
def keptS : Nat → List A → Sl
  | _, [] => []
  | i, .px id off :: r => (i, .px id off) :: keptS (i + 1) r
  | i, _ :: r => keptS (i + 1) r
def keptK (al : List A) (t : Nat) : Bool := match al[t]? with
  | some (.px _ _) => true
  | _ => false
def argA : Nat → List A → Sl
  | _, [] => []
  | i, a :: r => (i, a) :: argA (i + 1) r
def hasPx (id : Nat) (al : List A) : Bool := al.any fun a => match a with
  | .px i _ => i == id
  | _ => false
def RetX (P : Program) (rs : List ResultVar) (r : D) (al : List A) (V' R' : Bx) (s : St) : Prop := ∃ vs ds l, resVs P s rs vs ∧ frzVs s.β vs = some ds ∧ SubD (resD ds) r ∧ Forget l ⟨s.σ, frzVsU s.β vs ++ s.β⟩ ⟨keptS 0 al, V' ++ R'⟩
def retX (P : Program) (rs : List ResultVar) (r : D) (al : List A) (V' R' : Bx) : Exit → St → Prop
  | .normal, s => RetX P rs r al V' R' s
  | .ret, s => RetX P rs r al V' R' s
  | _, _ => False
theorem argA_look : ∀ {al : List A} {k t : Nat} {v : A}, look t (argA k al) = some v → ∃ i, t = k + i ∧ al[i]? = some v
  | d :: ds, k, t, v, h => by
    rw [argA, look_cons] at h
    split at h
    · rename_i hk; injection h with h; exact ⟨0, by omega, by rw [h]; rfl⟩
    · obtain ⟨i, h1, h2⟩ := argA_look h
      exact ⟨i + 1, by omega, by simpa using h2⟩
theorem keptS_look : ∀ {al : List A} {k i : Nat} {id off : Nat}, al[i]? = some (.px id off) → look (k + i) (keptS k al) = some (.px id off)
  | a :: al, k, 0, id, off, h => by
    injection h with h
    subst h
    simp [keptS, look_cons]
  | a :: al, k, i + 1, id, off, h => by
    have h : al[i]? = some (.px id off) := by simpa using h
    have ih := keptS_look (k := k + 1) h
    rw [show k + (i + 1) = k + 1 + i by omega]
    cases a with
    | px id2 off2 => rw [keptS, look_cons, if_neg (by omega)]; exact ih
    | _ => exact ih
theorem hasPx_get {id : Nat} : ∀ {al : List A}, hasPx id al = true → ∃ (i off : Nat), al[i]? = some (A.px id off)
  | a :: al, h => by
    simp only [hasPx, List.any_cons, Bool.or_eq_true] at h
    rcases h with h | h
    · cases a with
      | px i0 off =>
        have : i0 = id := by simpa using h
        subst this
        exact ⟨0, off, rfl⟩
      | _ => cases h
    · obtain ⟨i, off, h⟩ := hasPx_get (al := al) h
      exact ⟨i + 1, off, by simpa using h⟩
section
variable {P : Program}
theorem px_of_aw {f : FuncId} {fn : Func} {c : Code} {al : List A} {V R V' R' : Bx} {r : D} {rs : List ResultVar} (hf : P.funcs[f]? = some fn) (hb : fn.body = some c) (hn : (fn.name == "runtime.NumGoroutine") = false) (hmx : P.follows .mixedOrders = true) (hok : codeOk (keptK al) fn.ntmps c = true) (hds : al.length ≤ fn.ntmps)
    (hrs : fn.results = rs.toArray) (hV : V'.all (fun p => hasPx p.1 al) = true) (h : AW P c (retX P rs r al V' R') ⟨argA 0 al, V ++ R⟩) : PX P f al V R r V' R' := by
  refine ⟨enters_of hf hb hn, fun ρ I w vs hm hin hr => ?_⟩
  refine calls_of_wp hf hb ?_
  have hvl := repAs_len hr
  rw [Array.length_toList] at hvl
  have hget : ∀ {i : Nat} {v : A}, al[i]? = some v → ∃ u, vs[i]? = some u ∧ RepA ρ I w v u ∧ (vs ++ Array.replicate (fn.ntmps - vs.size) undef).getD i undef = u ∧ i < vs.size := fun {i v} hi => by
    obtain ⟨u, h3, h4, _⟩ := repAs_get hr hi
    have hlt : i < vs.size := by rw [← Array.length_toList]; exact (List.getElem?_eq_some_iff.1 h3).1
    have h5 : vs[i]? = some u := by simpa using h3
    refine ⟨u, h5, h4, ?_, hlt⟩
    rw [Array.getD_eq_getD_getElem?, Array.getElem?_append_left hlt, h5]; rfl
  let C : Ctx := { w0 := w, PB := PBof (V ++ R) ρ, I0 := I, N := fn.ntmps, K := keptK al, args := fun t => (vs ++ Array.replicate (fn.ntmps - vs.size) undef).getD t undef }
  have hm' : Mem C (V ++ R) ρ I w := hm.ctx rfl rfl rfl
  have hat : At C ⟨argA 0 al, V ++ R⟩ { tmps := vs ++ Array.replicate (fn.ntmps - vs.size) undef, defers := [] } w := by
    refine ⟨ρ, I, hm', rfl, ?_, fun t _ => rfl, fun t v ht => ?_⟩
    · show (vs ++ Array.replicate (fn.ntmps - vs.size) undef).size = fn.ntmps
      simp; omega
    · obtain ⟨i, h1, h2⟩ := argA_look ht
      rw [Nat.zero_add] at h1
      subst h1
      obtain ⟨u, h3, h4, h5, h6⟩ := hget h2
      refine ⟨by show t < fn.ntmps; omega, A.insB_mem hin v (List.mem_of_getElem? h2), ?_⟩
      show RepA ρ I w v ((vs ++ Array.replicate (fn.ntmps - vs.size) undef).getD t undef)
      rw [h5]; exact h4
  have hfin : ∀ s a' w', RetX P rs r al V' R' s → At C s a' w' → a'.defers = [] ∧ ∃ v, (results fn a'.tmps).run P w' = .ok v w' ∧
      (∃ v' ρ' I', Ending.returned v = .returned v' ∧ (∀ p ∈ V', ρ' p.1 = ρ p.1) ∧ Mem (ctxOf (V ++ R) ρ I w) (V' ++ R') ρ' I' w' ∧ RepD I' w' r v') := by
    rintro s a' w' ⟨vs', ds', l, h1, h2, hsub, hfg⟩ ⟨ρ2, J, hm2, hfr⟩
    obtain ⟨us, k1, k2, k3⟩ := resVs_run hm2 hfr h1
    obtain ⟨J', m1, x1, r1, _⟩ := freeze_vals _ _ ds' s.β J hm2 k2 k3 h2
    have hul := repC_len r1
    have hfr1 : Fr C s.σ (frzVsU s.β vs' ++ s.β) ρ2 J' w' a' := ⟨hfr.defers, hfr.size, hfr.keep, fun t v ht => by
      obtain ⟨q1, q2, q3⟩ := hfr.val t v ht
      exact ⟨q1, A.inB_mono (fun i hi => dom_append hi) v q2, RepA.ext x1 v _ q2 q3⟩⟩
    have m2 := hfg.mem m1
    have f2 := hfg.fr hfr1
    refine ⟨hfr.defers, (if h : us.toArray.size = 1 then us.toArray[0] else .tuple us.toArray), ?_, _, _, J', rfl, fun p hp => ?_, m2.ctx rfl rfl rfl, ?_⟩
    · have hrm : ∀ fn' : Func, fn'.results = rs.toArray → results fn' a'.tmps = (do
          let vs ← rs.toArray.mapM (resRun a'.tmps)
          pure (if h : vs.size = 1 then vs[0] else .tuple vs)) := fun fn' h' => by
        unfold results
        rw [h']
        congr 1
      rw [hrm fn hrs, List.mapM_toArray]
      simp only [map_eq_pure_bind, bind_assoc, pure_bind, Sem.run_bind, k1, Result.andThen_ok, Sem.run_pure]
    · obtain ⟨i, off, hi⟩ := hasPx_get (List.all_eq_true.1 hV p hp)
      obtain ⟨_, _, g1, q1, q2⟩ := f2.val i (.px p.1 off) (by have := keptS_look (k := 0) hi; rwa [Nat.zero_add] at this)
      obtain ⟨u, _, ⟨g0, z1, z2⟩, z3, _⟩ := hget hi
      have hk := hfr.keep i (by show keptK al i = true; unfold keptK; rw [hi])
      have hk : a'.tmps.getD i undef = u := by rw [hk]; exact z3
      rw [hk, z2] at q2
      injection q2 with q2; injection q2 with q2; injection q2 with q2
      subst q2
      show ρ2 (renOf l p.1) = ρ p.1
      rw [z1]; exact q1
    · refine hsub _ _ _ ?_
      cases ds' with
      | nil =>
        cases r1
        refine ⟨#[], by rfl, rfl⟩
      | cons d ds1 =>
        obtain ⟨u, us1, rfl, _, hd, hrest⟩ := r1
        cases ds1 with
        | nil =>
          cases hrest
          exact hd
        | cons d2 ds2 =>
          have hl2 := repC_len hrest
          rw [dif_neg (by simp [hl2])]
          refine ⟨_, rfl, ?_⟩
          have : RepC J' w' false (d :: d2 :: ds2) (u :: us1) := ⟨u, us1, rfl, fun h => by (cases h), hd, hrest⟩
          simpa using this
  refine wp_mono (aw_sound hmx c _ _ _ w (C := C) hok h hat) fun en a' w' hq => ?_
  obtain ⟨s, hq, ha⟩ := hq
  cases en with
  | normal => exact hfin s a' w' hq ha
  | ret => exact hfin s a' w' hq ha
  | _ => exact hq.elim
end
/-! ### a call -/
def renB (π : Nat → Nat) (β : Bx) : Bx := β.map fun p => (π p.1, p.2.ren π)
def deadB (π : Nat → Nat) (β : Bx) : Bx := β.map fun p => (π p.1, .dead)
theorem look_renB {π : Nat → Nat} {β : Bx} (ho : onceB π β = true) {id : Nat} {b : Box} (h : look id (renB π β) = some b) : ∃ i b0, look i β = some b0 ∧ (i, b0) ∈ β ∧ π i = id ∧ b = b0.ren π := by
  obtain ⟨p, hp, he⟩ := List.mem_map.1 (look_mem h)
  injection he with h1 h2
  obtain ⟨b1, hb1⟩ := look_some_of (l := β) (t := p.1) (List.mem_map.2 ⟨p, hp, rfl⟩)
  have hmem := look_mem hb1
  refine ⟨p.1, b1, hb1, hmem, h1, ?_⟩
  have hu : ∀ {δ : Bx}, onceB π δ = true → ∀ {i : Nat} {b c : Box}, (i, b) ∈ δ → (i, c) ∈ δ → b = c := by
    intro δ
    induction δ with
    | nil => intro _ i b c hb; cases hb
    | cons q δ ih =>
      intro ho i b c hb hc
      obtain ⟨k, u⟩ := q
      simp only [onceB, Bool.and_eq_true] at ho
      have hn : ∀ p ∈ δ, π p.1 ≠ π k := fun p hp => by simpa using List.all_eq_true.1 ho.1 p hp
      rcases List.mem_cons.1 hb with hb1 | hb1 <;> rcases List.mem_cons.1 hc with hc1 | hc1
      · injection hb1 with _ e1; injection hc1 with _ e2; rw [e1, e2]
      · injection hb1 with e1 _; subst e1; exact absurd rfl (hn (i, c) hc1)
      · injection hc1 with e1 _; subst e1; exact absurd rfl (hn (i, b) hb1)
      · exact ih ho.2 hb1 hc1
  rw [← h2, hu ho (i := p.1) (b := p.2) (c := b1) hp hmem]
theorem look_renB_of {π : Nat → Nat} {β : Bx} {i : Nat} {b : Box} (h : look i β = some b) : ∃ b', look (π i) (renB π β) = some b' :=
  look_some_of (List.mem_map.2 ⟨(π i, b.ren π), List.mem_map.2 ⟨(i, b), look_mem h, rfl⟩, rfl⟩)
theorem look_deadB {π : Nat → Nat} {β : Bx} {id : Nat} {b : Box} (h : look id (deadB π β) = some b) : b = .dead ∧ ∃ p ∈ β, π p.1 = id := by
  obtain ⟨p, hp, he⟩ := List.mem_map.1 (look_mem h)
  injection he with h1 h2
  exact ⟨h2.symm, p, hp, h1⟩
section
variable {P : Program} {dst : Option Nat} {ty : TypeId} {e : Operand → A} {β : Bx}
theorem does_callX {x : Operand} {args : Array Operand} {ts : Array TypeId} {f : FuncId} {first captured : List A} {al : List A} {V R V' R' : Bx} {r : D} (ren ren' : List (Nat × Nat)) {ups : Bx} {rd : List Nat}
    (hx : e x = .fn (.func f) first captured) (hpc : PX P f al V R r V' R') (has : (first ++ args.toList.map e ++ captured).map (frzX β) = A.rens (renOf ren) al)
    (hb : keepB (renOf ren) (frzXsU β (first ++ args.toList.map e ++ captured) ++ β) (V ++ R)) (ho : onceB (renOf ren) (V ++ R) = true) (hin : inBb (V ++ R) (V ++ R)) (hia : A.insB (V ++ R) al)
    (hkeys : V'.map (·.1) = V.map (·.1)) (hvv : V'.all (fun p => renOf ren' p.1 == renOf ren p.1) = true) (hlv : V.all (fun p => p.2.live) = true)
    (ho' : onceB (renOf ren') (V' ++ R') = true) (hfresh : R'.all (fun p => (look (renOf ren' p.1) (frzXsU β (first ++ args.toList.map e ++ captured) ++ β)).isNone) = true) (hin' : inBb (V' ++ R') (V' ++ R'))
    (hups : ups = renB (renOf ren') (V' ++ R') ++ deadB (renOf ren) R ++ frzXsU β (first ++ args.toList.map e ++ captured)) (hrd : rd = (V ++ R).map (fun p => renOf ren p.1) ++ (first ++ args.toList.map e ++ captured).flatMap idsV) :
    Does P dst (.call { callee := .value x, args := args, argTypes := ts }) ty e β (.d r) ups rd := by
  subst hups hrd
  generalize hL : first ++ args.toList.map e ++ captured = L at *
  intro C γ hag ρ I w hm a hops o hop hd hty K Q hK
  obtain ⟨fi, ca, h1, h2, h3⟩ := call_args hx hops
  rw [hL] at h2 h3
  obtain ⟨e1, e2⟩ := frzX_agree (fun id hid => hag id (List.mem_append_left _ (List.mem_append_right _ hid)))
  obtain ⟨I1, m1, x1, b1, r1, _⟩ := freeze_valsX _ _ γ I hm h2 h3
  rw [e1, has] at r1
  rw [e2] at m1
  generalize hU : frzXsU β L = U at *
  have hagU : ∀ id, look id γ = look id β → look id (U ++ γ) = look id (U ++ β) := fun id h => by rw [look_append, look_append, h]
  have hkb : ∀ {i : Nat} {b : Box}, look i (V ++ R) = some b → look (renOf ren i) (U ++ γ) = some (b.ren (renOf ren)) := fun {i b} hi => by
    rw [hagU _ (hag _ (List.mem_append_left _ (List.mem_append_left _ (List.mem_map.2 ⟨(i, b), look_mem hi, rfl⟩))))]
    exact keepB_look hb hi
  have hfr : ∀ p ∈ R', look (renOf ren' p.1) (U ++ γ) = none := fun p hp => by
    have h0 := List.all_eq_true.1 hfresh p hp
    have h0 : look (renOf ren' p.1) (U ++ β) = none := by simpa using h0
    have hmem : renOf ren' p.1 ∈ (renB (renOf ren') (V' ++ R') ++ deadB (renOf ren) R ++ U).map (·.1) := by
      rw [List.map_append, List.map_append]
      refine List.mem_append_left _ (List.mem_append_left _ ?_)
      exact List.mem_map.2 ⟨(renOf ren' p.1, p.2.ren (renOf ren')), List.mem_map.2 ⟨p, List.mem_append_right _ hp, rfl⟩, rfl⟩
    rw [hagU _ (hag _ (List.mem_append_right _ hmem))]
    exact h0
  have hmc : Mem (ctxOf (V ++ R) (fun i => ρ (renOf ren i)) I1 w) (V ++ R) (fun i => ρ (renOf ren i)) I1 w :=
    { os := rfl, tape := rfl, output := rfl, size := Nat.le_refl _, frame := fun _ _ _ => rfl, imm := m1.imm, new := fun g hg => .inl hg,
      box := fun i b hi => BoxRep.ren (m1.box _ _ (hkb hi)),
      own := fun i b g hi hl hg => by
        obtain ⟨q1, q2, _⟩ := m1.own _ _ g (hkb hi) (by rw [live_ren]; exact hl) hg
        exact ⟨q1, q2, .inr ⟨i, b, hi, hl, hg⟩⟩,
      inj := fun i j b b' g hi hj hl hl' hg hg' => onceB_inj ho (look_mem hi) (look_mem hj) (m1.inj _ _ _ _ g (hkb hi) (hkb hj) (by rw [live_ren]; exact hl) (by rw [live_ren]; exact hl') hg hg'),
      clo := fun i b hi => inBb_look hin hi,
      gl := m1.gl }
  unfold Oper.wp
  rw [run_call hpc.enters rfl h1 o hop, Oper.upon_enter]
  have hre : RepAs (fun i => ρ (renOf ren i)) I1 w false al (fi ++ args.map a.eval ++ ca).toList := RepAs.ren (renOf ren) false al _ r1
  refine (hpc.calls _ I1 w _ hmc hia hre).mono fun en w' ⟨v, ρ', I', he, hρ, hm', hr'⟩ => ?_
  subst he
  let fresh : Nat → Prop := fun i => ∃ p ∈ R', renOf ren' p.1 = i
  have hdec : ∀ i, fresh i ∨ ¬ fresh i := fun i => Classical.em _
  -- where each box lies behind the call
  obtain ⟨ρ2, hρ2, hρ3⟩ : ∃ ρ2 : Nat → Value, (∀ p ∈ R', ρ2 (renOf ren' p.1) = ρ' p.1) ∧ ∀ i, ¬ fresh i → ρ2 i = ρ i := by
    classical
    refine ⟨fun i => if h : fresh i then ρ' h.choose.1 else ρ i, fun p hp => ?_, fun i hi => dif_neg hi⟩
    have hf : fresh (renOf ren' p.1) := ⟨p, hp, rfl⟩
    simp only [dif_pos hf]
    obtain ⟨hq1, hq2⟩ := hf.choose_spec
    exact congrArg ρ' (onceB_inj ho' (b := hf.choose.2) (b' := p.2) (List.mem_append_right _ hq1) (List.mem_append_right _ hp) hq2)
  have hvk : ∀ {i : Nat} {b : Box}, look i (V' ++ R') = some b → (i, b) ∈ V' ∨ (i, b) ∈ R' := fun {i b} h => List.mem_append.1 (look_mem h)
  have hvar : ∀ {i : Nat} {b : Box}, (i, b) ∈ V' → renOf ren' i = renOf ren i ∧ ∃ b0, look i (V ++ R) = some b0 ∧ b0.live = true := fun {i b} h => by
    refine ⟨by simpa using List.all_eq_true.1 hvv _ h, ?_⟩
    have hm0 : i ∈ V.map (·.1) := by rw [← hkeys]; exact List.mem_map.2 ⟨_, h, rfl⟩
    obtain ⟨b0, hb0⟩ := look_some_of hm0
    refine ⟨b0, by rw [look_append, hb0]; rfl, List.all_eq_true.1 hlv _ (look_mem hb0)⟩
  have hnf : ∀ {i : Nat} {b : Box}, (i, b) ∈ V' → ¬ fresh (renOf ren i) := fun {i b} h hf => by
    obtain ⟨p, hp, hpe⟩ := hf
    obtain ⟨_, b0, hb0, _⟩ := hvar h
    have := hfr p hp
    rw [hpe, hkb hb0] at this
    cases this
  have hval : ∀ {i : Nat} {b : Box}, look i (V' ++ R') = some b → ρ2 (renOf ren' i) = ρ' i := fun {i b} h => by
    rcases hvk h with h | h
    · obtain ⟨q1, _⟩ := hvar h
      rw [q1, hρ3 _ (hnf h)]
      exact (hρ (i, b) h).symm
    · exact hρ2 (i, b) h
  let I2 : Nat → Prop := fun g => I1 g ∨ I' g
  have hPB : ∀ g, PBof (V ++ R) (fun i => ρ (renOf ren i)) g → ∃ id b, look id (U ++ γ) = some b ∧ b.live = true ∧ blk (ρ id) = some g ∧ g < w.heap.size ∧ ¬ I1 g ∧ (C.w0.heap.size ≤ g ∨ C.PB g) ∧ ∃ i b0, look i (V ++ R) = some b0 ∧ renOf ren i = id := fun g ⟨i, b, hi, hl, hg⟩ => by
    obtain ⟨q1, q2, q3⟩ := m1.own _ _ g (hkb hi) (by rw [live_ren]; exact hl) hg
    exact ⟨_, _, hkb hi, by rw [live_ren]; exact hl, hg, q1, q2, q3, i, b, hi, rfl⟩
  have hupsL : ∀ {i : Nat}, (∃ b, look i (V ++ R) = some b) → look (renOf ren i) (renB (renOf ren') (V' ++ R') ++ deadB (renOf ren) R) ≠ none := fun {i} ⟨b, hb⟩ => by
    rw [look_append] at hb
    rw [look_append]
    cases hv : look i V with
    | some b1 =>
      have hm0 : i ∈ V'.map (·.1) := by rw [hkeys]; exact List.mem_map.2 ⟨_, look_mem hv, rfl⟩
      obtain ⟨b2, hb2⟩ := look_some_of hm0
      obtain ⟨q1, _⟩ := hvar (look_mem hb2)
      obtain ⟨b3, hb3⟩ := look_renB_of (π := renOf ren') (β := V' ++ R') (i := i) (b := b2) (by rw [look_append, hb2]; rfl)
      rw [← q1, hb3]; simp
    | none =>
      rw [hv] at hb
      have hb : look i R = some b := by simpa using hb
      obtain ⟨b2, hb2⟩ := look_some_of (l := deadB (renOf ren) R) (t := renOf ren i) (List.mem_map.2 ⟨(renOf ren i, .dead), List.mem_map.2 ⟨(i, b), look_mem hb, rfl⟩, rfl⟩)
      rw [hb2]
      cases look (renOf ren i) (renB (renOf ren') (V' ++ R')) <;> simp
  have hx2 : Ext (U ++ γ) ρ I1 w ρ2 I2 w' := ⟨⟨fun g h => .inl h, fun g h => by
    refine hm'.frame g (m1.imm g h) fun hp => ?_
    obtain ⟨_, _, _, _, _, _, q, _⟩ := hPB g hp
    exact q h⟩, fun i hi => hρ3 i fun ⟨p, hp, hpe⟩ => hi (by rw [← hpe]; exact hfr p hp)⟩
  have hmono : ExtI I' w' I2 w' := ⟨fun g h => .inr h, fun _ _ => rfl⟩
  have hold0 : ∀ id b g, look id (U ++ γ) = some b → look id (renB (renOf ren') (V' ++ R') ++ deadB (renOf ren) R) = none → b.live = true → blk (ρ id) = some g → ¬ PBof (V ++ R) (fun i => ρ (renOf ren i)) g := fun id b g h1 h2 h3 h4 hp => by
    obtain ⟨id2, b2, q1, q2, q3, _, _, _, i, b0, q4, q5⟩ := hPB g hp
    have := m1.inj id id2 b b2 g h1 q1 h3 q2 h4 q3
    rw [this, ← q5] at h2
    exact hupsL ⟨b0, q4⟩ h2
  have hlive : ∀ {i : Nat} {b : Box}, look i (V' ++ R') = some b → b.live = true → ∀ g, blk (ρ2 (renOf ren' i)) = some g → g < w'.heap.size ∧ ¬ I2 g ∧ (C.w0.heap.size ≤ g ∨ C.PB g) ∧ (w.heap.size ≤ g ∨ PBof (V ++ R) (fun i => ρ (renOf ren i)) g) := fun {i b} h hl g hg => by
    rw [hval h] at hg
    obtain ⟨q1, q2, q3⟩ := hm'.own i b g h hl hg
    refine ⟨q1, fun h0 => ?_, ?_, q3⟩
    · rcases h0 with h0 | h0
      · rcases q3 with q3 | q3
        · exact absurd (m1.imm g h0) (by have : w.heap.size ≤ g := q3; omega)
        · obtain ⟨_, _, _, _, _, _, q, _⟩ := hPB g q3
          exact q h0
      · exact q2 h0
    · rcases q3 with q3 | q3
      · exact .inl (Nat.le_trans m1.size q3)
      · obtain ⟨_, _, _, _, _, _, _, q, _⟩ := hPB g q3
        exact q
  have hmem := m1.upd (renB (renOf ren') (V' ++ R') ++ deadB (renOf ren) R) hx2 hm'.os hm'.tape hm'.output hm'.size
    (fun g h => by
      rcases h with h | h
      · exact Nat.lt_of_lt_of_le (m1.imm g h) hm'.size
      · exact hm'.imm g h)
    (fun g h => by
      rcases h with h | h
      · exact .inl h
      · rcases hm'.new g h with h | h | h
        · exact .inl h
        · exact .inr (.inl (Nat.le_trans m1.size h))
        · obtain ⟨_, _, _, _, _, _, _, q, _⟩ := hPB g h
          exact .inr q)
    (PBof (V ++ R) (fun i => ρ (renOf ren i))) (fun k hk hp => hm'.frame k hk hp) (fun k hk => by
      obtain ⟨_, _, _, _, _, _, _, q, _⟩ := hPB k hk
      exact q)
    (fun id b g h1 h2 h3 h4 => by
      refine ⟨hold0 id b g h1 h2 h3 h4, fun h => ?_⟩
      obtain ⟨q1, q2, _⟩ := m1.own id b g h1 h3 h4
      rcases h with h | h
      · exact q2 h
      · rcases hm'.new g h with h | h | h
        · exact q2 h
        · exact absurd q1 (by have : w.heap.size ≤ g := h; omega)
        · exact hold0 id b g h1 h2 h3 h4 h)
    (fun id b h => by
      rw [look_append] at h
      cases hv : look id (renB (renOf ren') (V' ++ R')) with
      | none =>
        rw [hv] at h
        obtain ⟨rfl, _⟩ := look_deadB (h : look id (deadB (renOf ren) R) = some b)
        exact ⟨trivial, trivial, fun h => by cases h⟩
      | some b1 =>
        rw [hv] at h
        have h : b1 = b := by simpa using h
        subst h
        obtain ⟨i, b0, q1, q2, rfl, rfl⟩ := look_renB ho' hv
        refine ⟨?_, ?_, fun hl g hg => ?_⟩
        · have hb1 := hm'.box i b0 q1
          have hb2 : BoxRep (fun i => ρ2 (renOf ren' i)) I2 w' i b0 := by
            have hcl := hm'.clo i b0 q1
            cases b0 with
            | var T cs =>
              obtain ⟨g, us, z1, z2, z3⟩ := hb1
              refine ⟨g, us, (hval q1).trans z1, z2, RepAs.ext (β := V' ++ R') ⟨hmono, fun j hj => ?_⟩ true cs _ hcl z3⟩
              obtain ⟨bj, hbj⟩ := Option.ne_none_iff_exists'.1 hj
              exact hval hbj
            | row E sz es =>
              obtain ⟨xs, z1, z2⟩ := hb1
              have e0 := hval q1
              refine ⟨xs, ?_, RepR.ext hmono sz es xs z2⟩
              show w'.ownsRow 0 E sz (ρ2 (renOf ren' i)) es.length xs
              rw [e0]; exact z1
            | frz sz es =>
              show RepD I2 w' (.sl sz es) (ρ2 (renOf ren' i))
              rw [hval q1]; exact RepD.ext hmono _ _ hb1
            | dead => trivial
          exact BoxRep.unren hb2
        · have hd : ∀ j, dom (V' ++ R') j → dom ((renB (renOf ren') (V' ++ R') ++ deadB (renOf ren) R) ++ (U ++ γ)) (renOf ren' j) := fun j hj => by
            obtain ⟨bj, hbj⟩ := Option.ne_none_iff_exists'.1 hj
            obtain ⟨b3, hb3⟩ := look_renB_of (π := renOf ren') hbj
            unfold dom
            rw [look_append, look_append, hb3]; simp
          have hcl := hm'.clo i b0 q1
          cases b0 with
          | var T cs => exact A.insB_ren hd cs hcl
          | _ => trivial
        · rw [live_ren] at hl
          obtain ⟨z1, z2, z3, z4⟩ := hlive q1 hl g hg
          refine ⟨z1, z2, z3, fun id2 b2 y1 y2 y3 y4 => ?_⟩
          rcases z4 with z4 | z4
          · exact absurd (m1.own id2 b2 g y1 y3 y4).1 (by omega)
          · exact hold0 id2 b2 g y1 y2 y3 y4 z4)
    (fun i j b b' g h h' hl hl' hg hg' => by
      have hsplit : ∀ {id : Nat} {b : Box}, look id (renB (renOf ren') (V' ++ R') ++ deadB (renOf ren) R) = some b → b.live = true → look id (renB (renOf ren') (V' ++ R')) = some b := fun {id b} h hl => by
        rw [look_append] at h
        cases hv : look id (renB (renOf ren') (V' ++ R')) with
        | none =>
          rw [hv] at h
          obtain ⟨rfl, _⟩ := look_deadB (h : look id (deadB (renOf ren) R) = some b)
          cases hl
        | some b1 => rw [hv] at h; simpa using h
      obtain ⟨i0, b0, q1, _, rfl, rfl⟩ := look_renB ho' (hsplit h hl)
      obtain ⟨j0, b0', q2, _, rfl, rfl⟩ := look_renB ho' (hsplit h' hl')
      rw [hval q1] at hg
      rw [hval q2] at hg'
      rw [live_ren] at hl hl'
      rw [hm'.inj i0 j0 b0 b0' g q1 q2 hl hl' hg hg'])
  rw [hd]
  rw [← List.append_assoc] at hmem
  exact hK v ρ2 I2 w' hmem (x1.trans hx2 (fun i hi => dom_append hi)) trivial (RepD.ext hmono r v hr')
end
section
variable {P : Program} {rs : List ResultVar} {r : D} {al : List A} {V' R' : Bx} {s : St}
theorem xe_norm (h : RetX P rs r al V' R' s) : retX P rs r al V' R' .normal s := h
theorem xe_ret (h : RetX P rs r al V' R' s) : retX P rs r al V' R' .ret s := h
theorem retx_ok {vs : List A} {ds : List D} {l : List (Nat × Nat)} (h1 : resVs P s rs vs) (h2 : frzVs s.β vs = some ds) (h3 : SubD (resD ds) r) (h4 : Forget l ⟨s.σ, frzVsU s.β vs ++ s.β⟩ ⟨keptS 0 al, V' ++ R'⟩) : RetX P rs r al V' R' s := ⟨vs, ds, l, h1, h2, h3, h4⟩
end
section
variable {P : Program} {all r : List Oper} {σ : Sl} {β δ ups : Bx} {K : Sl → Bx → Prop} {t : Nat} {op : Op} {ty : TypeId} {pos : String} {af : Array Edge} {v : A} {rd : List Nat} {rs : List Rec}
theorem rpL (hs : Does P (some t) op ty (ev σ) β v ups rd) (he : ups ++ β = δ) (h : runP P all r ((t, v) :: σ) δ K) : runP P all (⟨some t, op, ty, pos, af, none⟩ :: r) σ β K := ⟨v, _, rd, hs, he ▸ h⟩
theorem drL (hs : Does P (some t) op ty (ev σ) β v ups rd) (he : ups ++ β = δ) (h : runD P all r ((t, v) :: σ) δ (mkRec all ⟨some t, op, ty, pos, af, none⟩ ups rd :: rs) K) : runD P all (⟨some t, op, ty, pos, af, none⟩ :: r) σ β rs K := ⟨v, _, rd, hs, he ▸ h⟩
theorem rpNL (hs : Does P none op ty (ev σ) β v ups rd) (he : ups ++ β = δ) (h : runP P all r σ δ K) : runP P all (⟨none, op, ty, pos, af, none⟩ :: r) σ β K := ⟨v, _, rd, hs, he ▸ h⟩
theorem drNL (hs : Does P none op ty (ev σ) β v ups rd) (he : ups ++ β = δ) (h : runD P all r σ δ (mkRec all ⟨none, op, ty, pos, af, none⟩ ups rd :: rs) K) : runD P all (⟨none, op, ty, pos, af, none⟩ :: r) σ β rs K := ⟨v, _, rd, hs, he ▸ h⟩
end
theorem lapp_nil (β : Bx) : [] ++ β = β := rfl
theorem lapp_1 (a : Nat × Box) (β : Bx) : [a] ++ β = a :: β := rfl
theorem lapp_2 (a b : Nat × Box) (β : Bx) : [a, b] ++ β = a :: b :: β := rfl
theorem lapp_3 (a b c : Nat × Box) (β : Bx) : [a, b, c] ++ β = a :: b :: c :: β := rfl
theorem lapp_4 (a b c d : Nat × Box) (β : Bx) : [a, b, c, d] ++ β = a :: b :: c :: d :: β := rfl
theorem lapp_5 (a b c d e : Nat × Box) (β : Bx) : [a, b, c, d, e] ++ β = a :: b :: c :: d :: e :: β := rfl
theorem lapp_6 (a b c d e f : Nat × Box) (β : Bx) : [a, b, c, d, e, f] ++ β = a :: b :: c :: d :: e :: f :: β := rfl
section
variable {P : Program} {dst : Option Nat} {ty : TypeId} {e : Operand → A} {β : Bx}
theorem does_makeFunc_l {f : Fn} {first captured : Array Operand} {vs ws : List A} (h1 : first.toList.map e = vs) (h2 : captured.toList.map e = ws) : Does P dst (.makeFunc f first captured) ty e β (.fn f vs ws) [] [] := by
  rw [← h1, ← h2]; exact does_makeFunc
theorem evs_nil {l : List Operand} (h : l = []) : l.map e = [] := by rw [h]; rfl
theorem evs_cons {x : Operand} {l m : List Operand} {v : A} {vs : List A} (hl : l = x :: m) (h : e x = v) (t : m.map e = vs) : l.map e = v :: vs := by rw [hl, ← h, ← t]; rfl
theorem does_quo_to {T T' : TypeId} {x y : Operand} {m n k : Nat} (hx : e x = .d (iD m)) (hy : e y = .d (iD n)) (hk : m / n = k) (h : 0 < n) (h2 : m ≤ 9223372036854775807) : Does P dst (.binOp .quo T x y T') ty e β (.d (iD k)) [] [] := by
  rw [← hk]; exact does_quo hx hy h h2
theorem does_rem_to {T T' : TypeId} {x y : Operand} {m n k : Nat} {z : Int} (hx : e x = .d (iD z)) (hz : z = m) (hy : e y = .d (iD n)) (hk : m % n = k) (h : 0 < n) : Does P dst (.binOp .rem T x y T') ty e β (.d (iD k)) [] [] := by
  subst hz; rw [← hk]; exact does_rem hx hy h
end
theorem rens_d (π : Nat → Nat) : ∀ ds : List D, A.rens π (ds.map A.d) = ds.map A.d
  | [] => rfl
  | d :: ds => by simp only [List.map_cons, A.rens, A.ren, rens_d π ds]
theorem kb_d {π : Nat → Nat} {β : Bx} {i : Nat} {T : TypeId} {ds : List D} (h : look (π i) β = some (.var T (ds.map A.d))) : look (π i) β = some (Box.ren π (.var T (ds.map A.d))) := by
  rw [h]; simp only [Box.ren, rens_d]
theorem var_d {π : Nat → Nat} {T : TypeId} {cs : List A} {ds : List D} (h : cs = ds.map A.d) : Box.var T cs = Box.ren π (Box.var T (ds.map A.d)) := by
  simp only [Box.ren, rens_d, h]
theorem Does.subA {P : Program} {dst : Option Nat} {op : Op} {ty : TypeId} {e : Operand → A} {β : Bx} {v v' : A} {ups : Bx} {rd : List Nat} (h : Does P dst op ty e β v ups rd) (hs : SubA v v') (hb : ∀ γ, v.inB γ → v'.inB γ) : Does P dst op ty e β v' ups rd :=
  fun C γ hag ρ I w hm a hops o ho hd hty K Q hK => h C γ hag ρ I w hm a hops o ho hd hty K Q fun vv ρ' I' w' h1 h2 h3 h4 => hK vv ρ' I' w' h1 h2 (hb _ h3) (hs _ _ _ _ h4)
theorem repC_of_A {ρ : Nat → Value} {I : Nat → Prop} {w : World} {o : Bool} : ∀ {ds : List D} {us : List Value}, RepAs ρ I w o (ds.map A.d) us → RepC I w o ds us
  | [], _, h => h
  | d :: ds, _, ⟨u, us, h1, h2, h3, h4⟩ => ⟨u, us, h1, h2, h3, repC_of_A h4⟩
theorem subA_ag (ds : List D) : SubA (.ag (ds.map A.d)) (.d (.ag ds)) := fun _ _ _ _ ⟨us, h1, h2⟩ => ⟨us, h1, repC_of_A h2⟩
section
variable {P : Program} {dst : Option Nat} {ty : TypeId} {e : Operand → A} {β : Bx} {T T0 : TypeId} {x y : Operand}
theorem allD_of : ∀ ds : List D, allD (ds.map A.d) = some ds
  | [] => rfl
  | d :: ds => by simp only [List.map_cons, allD, allD_of ds]
/-- A struct or an array out of a variable, as data. -/
theorem does_load_d {t : TyI} {id off : Nat} {cs : List A} {ds : List D} (ht : mkTy P T = some t) (hr : t.row = true) (hx : e x = .px id off) (hl : look id β = some (.var T0 cs)) (hcs : (cs.drop off).take t.size = ds.map A.d) (hoff : off + t.size ≤ cs.length) :
    Does P dst (.load T x) ty e β (.d (.ag ds)) [] [id] := by
  exact does_load_row ht hr hx hl hoff (by rw [hcs]; exact allD_of ds)
theorem does_load_all {t : TyI} {id : Nat} {ds : List D} (ht : mkTy P T = some t) (hr : t.row = true) (hx : e x = .px id 0) (hl : look id β = some (.var T0 (ds.map A.d))) (hlen : ds.length = t.size) :
    Does P dst (.load T x) ty e β (.d (.ag ds)) [] [id] :=
  does_load_d ht hr hx hl (by rw [List.drop_zero, List.take_of_length_le (by simp [hlen])]) (by simp [hlen])
theorem does_store_all {t : TyI} {id : Nat} {cs : List A} {vs : List D} (ht : mkTy P T = some t) (hx : e x = .px id 0) (hy : e y = .d (.ag vs)) (hl : look id β = some (.var T0 cs)) (hs : vs.length = t.size) (hlen : vs.length = cs.length) :
    Does P dst (.store T x y) ty e β .un [(id, .var T0 (vs.map A.d))] [id] := by
  have h := does_store_rowD (P := P) (dst := dst) (ty := ty) ht hx hy hs hl (by omega)
  rwa [putAt_whole (by simpa using hlen)] at h
end
theorem run_build_array {P : Program} {T el : TypeId} {t : TyI} {len esz : Nat} {er : Bool} {z : Value} {parts : List (Nat × Value)} {us : Array Value} (ht : mkTy P T = some t) (hk : t.kind = .array len el esz er) (hs : esz ≠ 0) (hz : ∀ w, (zeroValue T).run P w = .ok z w)
    (hf : Instr.fill (fun i => some (i * esz, esz)) z.cells.toList.toArray parts = some us) (w : World) : (Instr.build T parts.toArray).run P w = .ok (.agg us) w := by
  obtain ⟨i, d, z0, _, hd, _, _, _, _, _, hkd⟩ := mkTy_spec ht
  obtain ⟨rfl, rfl, rfl⟩ := kind_array (hkd.symm.trans hk)
  unfold Instr.build
  simp only [Array.toArray_toList] at hf
  simp only [Sem.run_bind, hz, Result.andThen_ok, run_underlying hd, run_sizeOf hs]
  rw [hf]
  rfl
theorem does_buildA {P : Program} {dst : Option Nat} {ty : TypeId} {e : Operand → A} {β : Bx} {T el : TypeId} {t : TyI} {len esz : Nat} {er : Bool} {parts : Array (Nat × Operand)} {out : List A} {ds : List D} (ht : mkTy P T = some t) (hk : t.kind = .array len el esz er) (hs : esz ≠ 0)
    (hf : Fills (fun i => some (i * esz, esz)) (t.zero.map .d) (parts.toList.map fun p => (p.1, e p.2)) out) (hout : allD out = some ds) : Does P dst (.build T parts) ty e β (.d (.ag ds)) [] [] :=
  Does.of_run fun C γ _ ρ I w _ a hops o ho _ => by
    obtain ⟨z, hz, hzr, _, _⟩ := mkTy_zero ht
    have hops' : ∀ x ∈ (parts.toList.map (·.2)), (e x).inB γ ∧ RepA ρ I w (e x) (a.eval x) := fun x hx => hops x (by simpa [Op.operands] using hx)
    obtain ⟨us, h1, h2⟩ := fills_run (ρ := ρ) hf (repAs_of_C (hzr I w)) (by simp) (build_parts hops')
    rw [allD_map hout] at h2
    refine ⟨.agg us, ?_, trivial, us, rfl, repC_of_As h2⟩
    have hrun := run_build_array ht hk hs hz h1 w
    have e1 : (parts.toList.map fun p => (p.1, a.eval p.2)).toArray = parts.map fun p => (p.1, a.eval p.2) := by
      apply Array.ext'
      simp
    rw [e1] at hrun
    simp only [execOp, ho, Sem.run_bind]
    rw [hrun]
    rfl
def enumA : Nat → List A → List (Nat × A)
  | _, [] => []
  | i, v :: r => (i, v) :: enumA (i + 1) r
theorem fills_full : ∀ (ds : List D) (pre rest : List A), rest.length = ds.length → ds.all D.one = true → Fills (fun i => some (i * 1, 1)) (pre ++ rest) (enumA pre.length (ds.map A.d)) (pre ++ ds.map A.d)
  | [], pre, rest, h, _ => by
    have : rest = [] := List.eq_nil_of_length_eq_zero h
    subst this
    rfl
  | d :: ds, pre, [], h, _ => by simp at h
  | d :: ds, pre, r :: rest, h, ho => by
    simp only [List.all_cons, Bool.and_eq_true] at ho
    have hc : (A.d d).cells = [A.d d] := by
      cases d <;> first | rfl | cases ho.1
    refine ⟨pre.length * 1, 1, rfl, by rw [hc]; rfl, by simp, by rw [hc]; simp only [List.all_cons, List.all_nil, Bool.and_true]; exact ho.1, ?_⟩
    have e : putAt (pre ++ r :: rest) (pre.length * 1) (A.d d).cells = (pre ++ [A.d d]) ++ rest := by
      rw [hc, Nat.mul_one]
      unfold putAt
      simp
    rw [e]
    have := fills_full ds (pre ++ [A.d d]) rest (by simpa using h) ho.2
    simpa using this
def PV (e : Operand → A) : Nat → List (Nat × Operand) → List D → Prop
  | _, [], ds => ds = []
  | k, (i, x) :: l, ds => ∃ d ds', ds = d :: ds' ∧ i = k ∧ e x = .d d ∧ PV e (k + 1) l ds'
theorem pv_nil {e : Operand → A} {k : Nat} : PV e k [] [] := rfl
theorem pv_cons {e : Operand → A} {k i : Nat} {x : Operand} {l : List (Nat × Operand)} {d : D} {ds : List D} (h : e x = .d d) (hi : i = k) (t : PV e (k + 1) l ds) : PV e k ((i, x) :: l) (d :: ds) := ⟨d, ds, rfl, hi, h, t⟩
theorem pv_enum {e : Operand → A} : ∀ {l : List (Nat × Operand)} {k : Nat} {ds : List D}, PV e k l ds → l.map (fun p => (p.1, e p.2)) = enumA k (ds.map A.d)
  | [], k, ds, h => by cases h; rfl
  | (i, x) :: l, k, _, ⟨d, ds, rfl, hi, h, t⟩ => by
    subst hi
    simp only [List.map_cons, enumA, h, pv_enum t]
/-- An array, each element of it. -/
theorem does_build_full {P : Program} {dst : Option Nat} {ty : TypeId} {e : Operand → A} {β : Bx} {T el : TypeId} {t : TyI} {len : Nat} {er : Bool} {parts : List (Nat × Operand)} {ds : List D} (ht : mkTy P T = some t) (hk : t.kind = .array len el 1 er)
    (hf : PV e 0 parts ds) (hl : t.zero.length = ds.length) (ho : ds.all D.one = true) : Does P dst (.build T parts.toArray) ty e β (.d (.ag ds)) [] [] := by
  refine does_buildA (el := el) (len := len) (esz := 1) (er := er) (out := ds.map A.d) ht hk Nat.one_ne_zero ?_ (allD_of ds)
  have h0 : Fills (fun i => some (i * 1, 1)) (t.zero.map A.d) (enumA 0 (ds.map A.d)) (ds.map A.d) := fills_full ds [] (t.zero.map A.d) (by simpa using hl) ho
  rw [← pv_enum hf] at h0
  exact h0
theorem rv_rowd {P : Program} {s : St} {t : Nat} {T : TypeId} {i : Nat} {T0 : TypeId} {ds : List D} {ty : TyI} (h1 : look t s.σ = some (.px i 0)) (h2 : look i s.β = some (.var T0 (ds.map A.d))) (h3 : mkTy P T = some ty) (h4 : ty.row = true) (h5 : ds.length = ty.size) : resV P s (.cell t T) (.ag (ds.map A.d)) := by
  have h := rv_row (P := P) h1 h2 h3 h4 (by simp [h5])
  rwa [List.drop_zero, List.take_of_length_le (by simp [h5])] at h
theorem frz1s_map (β : Bx) : ∀ ds : List D, frz1s β (ds.map A.d) = some ds
  | [] => rfl
  | d :: ds => by simp only [List.map_cons, frz1s, frz1, frz1s_map β ds]
theorem frzV_map (β : Bx) (ds : List D) : frzV β (.ag (ds.map A.d)) = some (.ag ds) := by simp only [frzV, frz1s_map]
theorem frzVs_one {β : Bx} {v : A} {d : D} (h : frzV β v = some d) : frzVs β [v] = some [d] := by simp only [frzVs, h]
theorem frzVs_cons {β : Bx} {v : A} {vs : List A} {d : D} {ds : List D} (h : frzV β v = some d) (h2 : frzVs β vs = some ds) : frzVs β (v :: vs) = some (d :: ds) := by simp only [frzVs, h, h2]
theorem does_zeroA {P : Program} {dst : Option Nat} {ty : TypeId} {e : Operand → A} {β : Bx} {T el : TypeId} {t : TyI} {len esz : Nat} {er : Bool} (ht : mkTy P T = some t) (hk : t.kind = .array len el esz er) (hs : esz ≠ 0) : Does P dst (.build T #[]) ty e β (.d (.ag t.zero)) [] [] :=
  does_buildA (parts := #[]) (out := t.zero.map A.d) ht hk hs rfl (allD_of _)
theorem does_zeroS {P : Program} {dst : Option Nat} {ty : TypeId} {e : Operand → A} {β : Bx} {T : TypeId} {t : TyI} {fs : List (Nat × Nat × Bool)} (ht : mkTy P T = some t) (hk : t.kind = .struct fs) (hfs : fs.all (fun f => f.2.1 != 0) = true) : Does P dst (.build T #[]) ty e β (.d (.ag t.zero)) [] [] :=
  does_build (parts := #[]) (out := t.zero.map A.d) ht hk hfs rfl (allD_of _)
theorem zero64 : List.replicate 64 (D.sc (.int .u8 0)) = (List.replicate 64 (0 : UInt8)).map u8D := by rw [List.map_replicate]; rfl
section
variable {P : Program} {all r : List Oper} {σ : Sl} {β δ ups : Bx} {K : Sl → Bx → Prop} {t : Nat} {op : Op} {ty : TypeId} {pos : String} {af : Array Edge} {v : A} {rd : List Nat} {rs : List Rec}
/-- The guard holds: as if there were none. -/
theorem stepGT {dst : Option Nat} {g : Nat × Bool} {want x : Bool} (hg : guardT all ⟨dst, op, ty, pos, af, some g⟩ = some (some (t, want))) (hx : gval σ t want = some x) (ht : x = true) (hgt : gates true (ev σ) op.operands.toList) (hd : Does P dst op ty (fun y => stripA (ev σ y)) β v ups rd) :
    StepSem P all σ β ⟨dst, op, ty, pos, af, some g⟩ v ups rd := by
  unfold StepSem
  rw [hg]
  subst ht
  exact .inr ⟨fun _ => true, hx, hgt, hd⟩
theorem rpGT {d : Nat} {g : Nat × Bool} {want x : Bool} (hg : guardT all ⟨some d, op, ty, pos, af, some g⟩ = some (some (t, want))) (hx : gval σ t want = some x) (ht : x = true) (hgt : gates true (ev σ) op.operands.toList) (hd : Does P (some d) op ty (fun y => stripA (ev σ y)) β v ups rd)
    (he : ups ++ β = δ) (h : runP P all r ((d, v) :: σ) δ K) : runP P all (⟨some d, op, ty, pos, af, some g⟩ :: r) σ β K := ⟨v, ups, rd, stepGT hg hx ht hgt hd, he ▸ h⟩
theorem drGT {d : Nat} {g : Nat × Bool} {want x : Bool} (hg : guardT all ⟨some d, op, ty, pos, af, some g⟩ = some (some (t, want))) (hx : gval σ t want = some x) (ht : x = true) (hgt : gates true (ev σ) op.operands.toList) (hd : Does P (some d) op ty (fun y => stripA (ev σ y)) β v ups rd)
    (he : ups ++ β = δ) (h : runD P all r ((d, v) :: σ) δ (mkRec all ⟨some d, op, ty, pos, af, some g⟩ ups rd :: rs) K) : runD P all (⟨some d, op, ty, pos, af, some g⟩ :: r) σ β rs K := ⟨v, ups, rd, stepGT hg hx ht hgt hd, he ▸ h⟩
theorem rpGTN {g : Nat × Bool} {want x : Bool} (hg : guardT all ⟨none, op, ty, pos, af, some g⟩ = some (some (t, want))) (hx : gval σ t want = some x) (ht : x = true) (hgt : gates true (ev σ) op.operands.toList) (hd : Does P none op ty (fun y => stripA (ev σ y)) β v ups rd)
    (he : ups ++ β = δ) (h : runP P all r σ δ K) : runP P all (⟨none, op, ty, pos, af, some g⟩ :: r) σ β K := ⟨v, ups, rd, stepGT hg hx ht hgt hd, he ▸ h⟩
theorem drGTN {g : Nat × Bool} {want x : Bool} (hg : guardT all ⟨none, op, ty, pos, af, some g⟩ = some (some (t, want))) (hx : gval σ t want = some x) (ht : x = true) (hgt : gates true (ev σ) op.operands.toList) (hd : Does P none op ty (fun y => stripA (ev σ y)) β v ups rd)
    (he : ups ++ β = δ) (h : runD P all r σ δ (mkRec all ⟨none, op, ty, pos, af, some g⟩ ups rd :: rs) K) : runD P all (⟨none, op, ty, pos, af, some g⟩ :: r) σ β rs K := ⟨v, ups, rd, stepGT hg hx ht hgt hd, he ▸ h⟩
end
end Go.Proofs.YtfkkamkhjbfjmaaDoor
