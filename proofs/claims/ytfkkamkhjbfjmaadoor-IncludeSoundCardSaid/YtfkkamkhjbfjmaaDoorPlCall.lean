/-
  The pure layer: a function's contract, calls, what a body hands back. No condition.
-/
import Derived.Test.YtfkkamkhjbfjmaaDoorPlApp
namespace Go.Proofs.YtfkkamkhjbfjmaaDoor
set_option linter.unusedSimpArgs false
set_option linter.unusedVariables false
open Go.RowKit

def frz1 (β : Bx) : A → Option D
  | .d x => some x
  | .ow id _ => match rowsOf β id with
    | some (sz, es) => some (.sl sz es)
    | none => none
  | _ => none
def frz1U (β : Bx) : A → Bx
  | .ow id _ => match rowsOf β id with
    | some (sz, es) => [(id, .frz sz es)]
    | none => []
  | _ => []
def frz1s (β : Bx) : List A → Option (List D)
  | [] => some []
  | x :: r => match frz1 β x, frz1s β r with
    | some d, some ds => some (d :: ds)
    | _, _ => none
def frz1sU (β : Bx) : List A → Bx
  | [] => []
  | x :: r => frz1sU β r ++ frz1U β x
def frzV (β : Bx) : A → Option D
  | .ag cs => match frz1s β cs with
    | some ds => some (.ag ds)
    | none => none
  | v => frz1 β v
def frzVU (β : Bx) : A → Bx
  | .ag cs => frz1sU β cs
  | v => frz1U β v
def frzVs (β : Bx) : List A → Option (List D)
  | [] => some []
  | x :: r => match frzV β x, frzVs β r with
    | some d, some ds => some (d :: ds)
    | _, _ => none
def frzVsU (β : Bx) : List A → Bx
  | [] => []
  | x :: r => frzVsU β r ++ frzVU β x
def ids1 : A → List Nat
  | .ow id _ => [id]
  | _ => []
def idsV : A → List Nat
  | .ag cs => cs.flatMap ids1
  | v => ids1 v
theorem rowsOf_frz {γ : Bx} {id : Nat} {sz : Nat} {es : List (List D)} (h : rowsOf γ id = some (sz, es)) (i : Nat) : rowsOf ([(id, .frz sz es)] ++ γ) i = rowsOf γ i := by
  by_cases hi : i = id
  · subst hi
    rw [h]
    unfold rowsOf
    simp [look_append, look_cons]
  · unfold rowsOf
    have : look i ([(id, Box.frz sz es)] ++ γ) = look i γ := by
      rw [look_append, look_cons, if_neg (Ne.symm hi)]; rfl
    rw [this]
theorem Ext.trans {β γ : Bx} {ρ ρ' ρ2 : Nat → Value} {I I' I2 : Nat → Prop} {w w' w2 : World} (h : Ext β ρ I w ρ' I' w') (h2 : Ext γ ρ' I' w' ρ2 I2 w2) (hd : ∀ i, dom β i → dom γ i) : Ext β ρ I w ρ2 I2 w2 :=
  ⟨⟨fun g hg => h2.imm g (h.imm g hg), fun g hg => (h2.same g (h.imm g hg)).trans (h.same g hg)⟩, fun i hi => (h2.rho i (hd i hi)).trans (h.rho i hi)⟩
/-- Frozen or not: a row is read as data from now on. -/
theorem Mem.freeze_any {C : Ctx} {γ : Bx} {ρ : Nat → Value} {I : Nat → Prop} {w : World} (hm : Mem C γ ρ I w) {id sz : Nat} {es : List (List D)} (h : rowsOf γ id = some (sz, es)) :
    ∃ I', Mem C ([(id, .frz sz es)] ++ γ) ρ I' w ∧ Ext γ ρ I w ρ I' w ∧ RepD I' w (.sl sz es) (ρ id) := by
  have hr : ∀ {I'}, Mem C ([(id, .frz sz es)] ++ γ) ρ I' w → RepD I' w (.sl sz es) (ρ id) := fun hm' => hm'.box id (.frz sz es) (by simp [look_append, look_cons])
  unfold rowsOf at h
  split at h
  · rename_i hl
    injection h with h; injection h with e1 e2; subst e1 e2
    obtain ⟨I', h1, h2⟩ := hm.freeze hl
    exact ⟨I', h1, h2, hr h1⟩
  · rename_i sz0 es0 hl
    injection h with h; injection h with e1 e2; subst e1 e2
    have hm' : Mem C ([(id, .frz sz0 es0)] ++ γ) ρ I w := hm.congr fun i => by
      rw [look_append, look_cons]
      split
      · rename_i hi; subst hi; rw [hl]; rfl
      · rfl
    exact ⟨I, hm', Ext.refl _ _ _ _, hr hm'⟩
  · cases h
theorem freeze_one {C : Ctx} {γ : Bx} {ρ : Nat → Value} {I : Nat → Prop} {w : World} (hm : Mem C γ ρ I w) {v : A} {u : Value} {d : D} (hr : RepA ρ I w v u) (h : frz1 γ v = some d) :
    ∃ I', Mem C (frz1U γ v ++ γ) ρ I' w ∧ Ext γ ρ I w ρ I' w ∧ RepD I' w d u ∧ ((v.one = true) → d.one = true) ∧ ∀ i, rowsOf (frz1U γ v ++ γ) i = rowsOf γ i := by
  cases v with
  | d x =>
    simp only [frz1, Option.some.injEq] at h
    subst h
    exact ⟨I, by simpa [frz1U] using hm, Ext.refl _ _ _ _, hr, fun h => h, fun i => rfl⟩
  | ow id n =>
    simp only [frz1] at h
    split at h
    · rename_i sz es hro
      simp only [Option.some.injEq] at h
      subst h
      obtain ⟨I', h1, h2, h3⟩ := hm.freeze_any hro
      have e1 : frz1U γ (.ow id n) = [(id, .frz sz es)] := by simp [frz1U, hro]
      rw [e1]
      refine ⟨I', h1, h2, ?_, fun _ => rfl, rowsOf_frz hro⟩
      rw [hr.1]; exact h3
    · cases h
  | _ => cases h
theorem frz1_congr {γ δ : Bx} (h : ∀ i, rowsOf δ i = rowsOf γ i) (v : A) : frz1 δ v = frz1 γ v ∧ frz1U δ v = frz1U γ v := by
  cases v <;> simp [frz1, frz1U, h]
theorem frz1s_congr {γ δ : Bx} (h : ∀ i, rowsOf δ i = rowsOf γ i) : ∀ l : List A, frz1s δ l = frz1s γ l ∧ frz1sU δ l = frz1sU γ l
  | [] => ⟨rfl, rfl⟩
  | x :: r => by
    obtain ⟨h1, h2⟩ := frz1_congr h x
    obtain ⟨h3, h4⟩ := frz1s_congr h r
    simp only [frz1s, frz1sU, h1, h2, h3, h4, and_self]
theorem freeze_ones {C : Ctx} {ρ : Nat → Value} {w : World} {o : Bool} : ∀ (l : List A) (us : List Value) (ds : List D) (γ : Bx) (I : Nat → Prop), Mem C γ ρ I w → A.insB γ l → RepAs ρ I w o l us → frz1s γ l = some ds →
    ∃ I', Mem C (frz1sU γ l ++ γ) ρ I' w ∧ Ext γ ρ I w ρ I' w ∧ RepC I' w o ds us ∧ ∀ i, rowsOf (frz1sU γ l ++ γ) i = rowsOf γ i
  | [], us, ds, γ, I, hm, hb, hr, h => by
    simp only [frz1s, Option.some.injEq] at h
    subst h
    exact ⟨I, by simpa [frz1sU] using hm, Ext.refl _ _ _ _, hr, fun i => rfl⟩
  | v :: l, _, ds, γ, I, hm, hb, ⟨u, us, rfl, ho, hv, hr⟩, h => by
    simp only [frz1s] at h
    split at h
    · rename_i d ds' h1 h2
      simp only [Option.some.injEq] at h
      subst h
      obtain ⟨I1, m1, x1, r1, o1, c1⟩ := freeze_one hm hv h1
      have hd : ∀ i, dom γ i → dom (frz1U γ v ++ γ) i := fun i hi => dom_append hi
      obtain ⟨e1, e2⟩ := frz1s_congr c1 l
      obtain ⟨I2, m2, x2, r2, c2⟩ := freeze_ones l us ds' (frz1U γ v ++ γ) I1 m1 (A.insB_mono hd l hb.2) (RepAs.ext x1 o l us hb.2 hr) (by rw [e1]; exact h2)
      rw [e2, ← List.append_assoc] at m2 c2
      exact ⟨I2, m2, x1.trans x2 hd, ⟨u, us, rfl, fun h => o1 (ho h), RepD.ext x2.toExtI d u r1, r2⟩, fun i => (c2 i).trans (c1 i)⟩
    · cases h
theorem freeze_val {C : Ctx} {γ : Bx} {ρ : Nat → Value} {I : Nat → Prop} {w : World} (hm : Mem C γ ρ I w) {v : A} {u : Value} {d : D} (hb : v.inB γ) (hr : RepA ρ I w v u) (h : frzV γ v = some d) :
    ∃ I', Mem C (frzVU γ v ++ γ) ρ I' w ∧ Ext γ ρ I w ρ I' w ∧ RepD I' w d u ∧ ∀ i, rowsOf (frzVU γ v ++ γ) i = rowsOf γ i := by
  have hone : frz1 γ v = some d → ∃ I', Mem C (frz1U γ v ++ γ) ρ I' w ∧ Ext γ ρ I w ρ I' w ∧ RepD I' w d u ∧ ∀ i, rowsOf (frz1U γ v ++ γ) i = rowsOf γ i := fun h => by
    obtain ⟨I', h1, h2, h3, _, h5⟩ := freeze_one hm hr h
    exact ⟨I', h1, h2, h3, h5⟩
  cases v with
  | ag cs =>
    simp only [frzV] at h
    split at h
    · rename_i ds hds
      simp only [Option.some.injEq] at h
      subst h
      obtain ⟨us, rfl, hr⟩ := hr
      obtain ⟨I', h1, h2, h3, h4⟩ := freeze_ones cs _ ds γ I hm hb hr hds
      exact ⟨I', h1, h2, ⟨us, rfl, h3⟩, h4⟩
    · cases h
  | _ => exact hone h
theorem frzV_congr {γ δ : Bx} (h : ∀ i, rowsOf δ i = rowsOf γ i) (v : A) : frzV δ v = frzV γ v ∧ frzVU δ v = frzVU γ v := by
  have h0 := frz1_congr h v
  cases v with
  | ag cs => simp only [frzV, frzVU, (frz1s_congr h cs).1, (frz1s_congr h cs).2, and_self]
  | _ => exact h0
theorem frzVs_congr {γ δ : Bx} (h : ∀ i, rowsOf δ i = rowsOf γ i) : ∀ l : List A, frzVs δ l = frzVs γ l ∧ frzVsU δ l = frzVsU γ l
  | [] => ⟨rfl, rfl⟩
  | x :: r => by
    obtain ⟨h1, h2⟩ := frzV_congr h x
    obtain ⟨h3, h4⟩ := frzVs_congr h r
    simp only [frzVs, frzVsU, h1, h2, h3, h4, and_self]
theorem freeze_vals {C : Ctx} {ρ : Nat → Value} {w : World} : ∀ (l : List A) (us : List Value) (ds : List D) (γ : Bx) (I : Nat → Prop), Mem C γ ρ I w → A.insB γ l → RepAs ρ I w false l us → frzVs γ l = some ds →
    ∃ I', Mem C (frzVsU γ l ++ γ) ρ I' w ∧ Ext γ ρ I w ρ I' w ∧ RepC I' w false ds us ∧ ∀ i, rowsOf (frzVsU γ l ++ γ) i = rowsOf γ i
  | [], us, ds, γ, I, hm, hb, hr, h => by
    simp only [frzVs, Option.some.injEq] at h
    subst h
    exact ⟨I, by simpa [frzVsU] using hm, Ext.refl _ _ _ _, hr, fun i => rfl⟩
  | v :: l, _, ds, γ, I, hm, hb, ⟨u, us, rfl, ho, hv, hr⟩, h => by
    simp only [frzVs] at h
    split at h
    · rename_i d ds' h1 h2
      simp only [Option.some.injEq] at h
      subst h
      obtain ⟨I1, m1, x1, r1, c1⟩ := freeze_val hm hb.1 hv h1
      have hd : ∀ i, dom γ i → dom (frzVU γ v ++ γ) i := fun i hi => dom_append hi
      obtain ⟨e1, e2⟩ := frzVs_congr c1 l
      obtain ⟨I2, m2, x2, r2, c2⟩ := freeze_vals l us ds' (frzVU γ v ++ γ) I1 m1 (A.insB_mono hd l hb.2) (RepAs.ext x1 false l us hb.2 hr) (by rw [e1]; exact h2)
      rw [e2, ← List.append_assoc] at m2 c2
      exact ⟨I2, m2, x1.trans x2 hd, ⟨u, us, rfl, fun h => by (cases h), RepD.ext x2.toExtI d u r1, r2⟩, fun i => (c2 i).trans (c1 i)⟩
    · cases h

/-! ### contracts -/
def okBlocks (I : Nat → Prop) (w : World) : Prop := (∀ g, I g → g < w.heap.size) ∧ GlOk I w
def Enters (P : Program) (f : FuncId) : Prop := ∀ args w, (callFunc f args).run P w = .ok (.enter f args) w
/-- A call's contract: what comes in, what comes out; nothing that was there turns. -/
structure PC (P : Program) (f : FuncId) (ds : List D) (r : D) : Prop where
  enters : Enters P f
  calls : ∀ (I : Nat → Prop) (w : World) (vs : Array Value), okBlocks I w → RepC I w false ds vs.toList →
    Calls P f vs w fun e w' => ∃ v, e = .returned v ∧ RepD (fun g => (I g ∨ w.heap.size ≤ g) ∧ g < w'.heap.size) w' r v ∧ Below w.heap.size w w'
theorem enters_of {P : Program} {f : FuncId} {fn : Func} {c : Code} (hf : P.funcs[f]? = some fn) (hb : fn.body = some c) (hn : (fn.name == "runtime.NumGoroutine") = false) : Enters P f := by
  intro args w
  unfold callFunc
  simp [Sem.run_bind, hf, hb]
  have : ¬ fn.name = "runtime.NumGoroutine" := by simpa using hn
  simp [this]
mutual
theorem flat_rep {I I' : Nat → Prop} {w w' : World} : ∀ (d : D) (v : Value), d.flat = true → RepD I w d v → RepD I' w' d v
  | .sc _, _, _, h => h
  | .nl, _, _, h => h
  | .sl _ _, _, h, _ => by cases h
  | .ag cs, _, h, ⟨us, h1, h2⟩ => ⟨us, h1, flats_rep true cs _ h h2⟩
  | .tu cs, _, h, ⟨us, h1, h2⟩ => ⟨us, h1, flats_rep false cs _ h h2⟩
theorem flats_rep {I I' : Nat → Prop} {w w' : World} (o : Bool) : ∀ (ds : List D) (vs : List Value), D.flats ds = true → RepC I w o ds vs → RepC I' w' o ds vs
  | [], _, _, h => h
  | d :: ds, _, h, ⟨u, us, h1, h2, h3, h4⟩ => by
    simp only [D.flats, Bool.and_eq_true] at h
    exact ⟨u, us, h1, h2, flat_rep d u h.1 h3, flats_rep o ds us h.2 h4⟩
end
/-- Behind a call that turned nothing that was there. -/
theorem Mem.call {C : Ctx} {γ : Bx} {ρ : Nat → Value} {I : Nat → Prop} {w w' : World} (hm : Mem C γ ρ I w) (hb : Below w.heap.size w w') :
    Mem C γ ρ (fun g => (I g ∨ w.heap.size ≤ g) ∧ g < w'.heap.size) w' ∧ Ext γ ρ I w ρ (fun g => (I g ∨ w.heap.size ≤ g) ∧ g < w'.heap.size) w' := by
  have hx : Ext γ ρ I w ρ (fun g => (I g ∨ w.heap.size ≤ g) ∧ g < w'.heap.size) w' := ⟨⟨fun g hg => ⟨.inl hg, Nat.lt_of_lt_of_le (hm.imm g hg) hb.size⟩, fun g hg => hb.block g (hm.imm g hg)⟩, fun _ _ => rfl⟩
  refine ⟨?_, hx⟩
  have := hm.upd [] hx hb.os hb.tape hb.output hb.size (fun g h => h.2) (fun g h => by
    rcases h.1 with h | h
    · exact .inl h
    · exact .inr (.inl (Nat.le_trans hm.size h))) (fun _ => False) (fun k hk _ => hb.block k hk) (fun k h => h.elim) (fun id b g hl _ hlv hg => ⟨fun h => h, fun h => by
      obtain ⟨h1, h2, _⟩ := hm.own id b g hl hlv hg
      rcases h.1 with h | h
      · exact h2 h
      · omega⟩) (fun id b h => by cases h) (fun i j b b' g h => by cases h)
  simpa using this
section
variable {P : Program} {fr : Nat} {dst : Option Nat} {ty : TypeId} {e : Operand → A} {β : Bx}
theorem ops_rep {γ : Bx} {ρ : Nat → Value} {I : Nat → Prop} {w : World} {a : Act} : ∀ {l : List Operand}, (∀ x ∈ l, (e x).inB γ ∧ RepA ρ I w (e x) (a.eval x)) → A.insB γ (l.map e) ∧ RepAs ρ I w false (l.map e) (l.map a.eval)
  | [], _ => ⟨trivial, rfl⟩
  | x :: l, h => by
    obtain ⟨h1, h2⟩ := ops_rep fun y hy => h y (List.mem_cons_of_mem _ hy)
    obtain ⟨h3, h4⟩ := h x (by simp)
    exact ⟨⟨h3, h1⟩, _, _, rfl, fun h => by (cases h), h4, h2⟩
theorem frz_agree {γ : Bx} : ∀ {l : List A}, (∀ id ∈ l.flatMap idsV, look id γ = look id β) → frzVs γ l = frzVs β l ∧ frzVsU γ l = frzVsU β l := by
  have h1 : ∀ v : A, (∀ id ∈ ids1 v, look id γ = look id β) → frz1 γ v = frz1 β v ∧ frz1U γ v = frz1U β v := fun v h => by
    cases v with
    | ow id n => simp only [frz1, frz1U, rowsOf_agree (h id (by simp [ids1])), and_self]
    | _ => exact ⟨rfl, rfl⟩
  have h1s : ∀ l : List A, (∀ id ∈ l.flatMap ids1, look id γ = look id β) → frz1s γ l = frz1s β l ∧ frz1sU γ l = frz1sU β l := by
    intro l
    induction l with
    | nil => intro _; exact ⟨rfl, rfl⟩
    | cons v l ih =>
      intro h
      obtain ⟨a1, a2⟩ := h1 v fun id hi => h id (by simp [hi])
      obtain ⟨a3, a4⟩ := ih fun id hi => h id (by rw [List.flatMap_cons]; exact List.mem_append_right _ hi)
      simp only [frz1s, frz1sU, a1, a2, a3, a4, and_self]
  have hV : ∀ v : A, (∀ id ∈ idsV v, look id γ = look id β) → frzV γ v = frzV β v ∧ frzVU γ v = frzVU β v := fun v h => by
    have h0 := h1 v
    cases v with
    | ag cs =>
      obtain ⟨a1, a2⟩ := h1s cs h
      simp only [frzV, frzVU, a1, a2, and_self]
    | _ => exact h0 h
  intro l
  induction l with
  | nil => intro _; exact ⟨rfl, rfl⟩
  | cons v l ih =>
    intro h
    obtain ⟨a1, a2⟩ := hV v fun id hi => h id (by simp [hi])
    obtain ⟨a3, a4⟩ := ih fun id hi => h id (by rw [List.flatMap_cons]; exact List.mem_append_right _ hi)
    simp only [frzVs, frzVsU, a1, a2, a3, a4, and_self]
theorem run_call {f : FuncId} {c : Call} {x : Operand} {a : Act} {w : World} {fi ca : Array Value} (he : Enters P f) (hc : c.callee = .value x) (hx : a.eval x = .func (.func f) fi ca) (o : Oper) (ho : o.op = .call c) :
    (execOp a.eval o).run P w = .ok (.enter f (fi ++ c.args.map a.eval ++ ca)) w := by
  simp only [execOp, ho, resolve, hc, Sem.run_bind, hx, Deferred.ofValue, Sem.run_pure, Result.andThen_ok, invoke]
  exact he _ w
theorem call_args {γ : Bx} {ρ : Nat → Value} {I : Nat → Prop} {w : World} {a : Act} {x : Operand} {args : Array Operand} {ts : Array TypeId} {f : FuncId} {first captured : List A} (hx : e x = .fn (.func f) first captured)
    (hops : ∀ y ∈ (Op.call { callee := .value x, args := args, argTypes := ts }).operands.toList, (e y).inB γ ∧ RepA ρ I w (e y) (a.eval y)) :
    ∃ fi ca : Array Value, a.eval x = .func (.func f) fi ca ∧ A.insB γ (first ++ args.toList.map e ++ captured) ∧ RepAs ρ I w false (first ++ args.toList.map e ++ captured) (fi ++ args.map a.eval ++ ca).toList := by
  obtain ⟨hb, hr⟩ := hops x (by simp [Op.operands, Call.operands])
  rw [hx] at hb hr
  obtain ⟨us, vs, h1, h2, h3⟩ := hr
  obtain ⟨h4, h5⟩ := ops_rep (γ := γ) (ρ := ρ) (I := I) (w := w) (a := a) (e := e) (l := args.toList) fun y hy => hops y (by simp [Op.operands, Call.operands, Array.mem_toList_iff.1 hy])
  refine ⟨us, vs, h1, A.insB_of fun v hv => ?_, ?_⟩
  · simp only [List.mem_append] at hv
    rcases hv with (hv | hv) | hv
    · exact A.insB_mem hb.1 v hv
    · exact A.insB_mem h4 v hv
    · exact A.insB_mem hb.2 v hv
  · have := repAs_append (repAs_append h2 h5) h3
    simpa using this
theorem does_call_flat {x : Operand} {args : Array Operand} {ts : Array TypeId} {f : FuncId} {first captured : List A} {ds : List D} {r : D} (hx : e x = .fn (.func f) first captured) (hds : frzVs β (first ++ args.toList.map e ++ captured) = some ds) (hpc : PC P f ds r) (hfl : r.flat = true) :
    Does P dst (.call { callee := .value x, args := args, argTypes := ts }) ty e β (.d r) [] ((first ++ args.toList.map e ++ captured).flatMap idsV) := by
  intro C γ hag ρ I w hm a hops o ho hd hty K Q hK
  obtain ⟨fi, ca, h1, h2, h3⟩ := call_args hx hops
  obtain ⟨e1, e2⟩ := frz_agree (fun id hid => hag id (List.mem_append_left _ hid))
  obtain ⟨I', m1, x1, r1, _⟩ := freeze_vals _ _ ds γ I hm h2 h3 (e1.trans hds)
  unfold Oper.wp
  rw [run_call hpc.enters rfl h1 o ho, Oper.upon_enter]
  refine (hpc.calls I' w _ ⟨m1.imm, m1.gl⟩ r1).mono fun en w' ⟨v, he, hr, hb⟩ => ?_
  subst he
  have hm2 := hm.call hb
  simp only [hd]
  exact hK v ρ _ w' (by simpa using hm2.1) hm2.2 trivial (flat_rep r v hfl hr)
theorem does_call {x : Operand} {args : Array Operand} {ts : Array TypeId} {f : FuncId} {first captured : List A} {ds : List D} {r : D} (hx : e x = .fn (.func f) first captured) (hds : frzVs β (first ++ args.toList.map e ++ captured) = some ds) (hpc : PC P f ds r) :
    Does P dst (.call { callee := .value x, args := args, argTypes := ts }) ty e β (.d r) (frzVsU β (first ++ args.toList.map e ++ captured)) ((first ++ args.toList.map e ++ captured).flatMap idsV) := by
  intro C γ hag ρ I w hm a hops o ho hd hty K Q hK
  obtain ⟨fi, ca, h1, h2, h3⟩ := call_args hx hops
  obtain ⟨e1, e2⟩ := frz_agree (fun id hid => hag id (List.mem_append_left _ hid))
  obtain ⟨I', m1, x1, r1, _⟩ := freeze_vals _ _ ds γ I hm h2 h3 (e1.trans hds)
  unfold Oper.wp
  rw [run_call hpc.enters rfl h1 o ho, Oper.upon_enter]
  refine (hpc.calls I' w _ ⟨m1.imm, m1.gl⟩ r1).mono fun en w' ⟨v, he, hr, hb⟩ => ?_
  subst he
  have hm2 := m1.call hb
  rw [e2] at hm2
  simp only [hd]
  exact hK v ρ _ w' hm2.1 (x1.trans hm2.2 (fun i hi => dom_append hi)) trivial hr
/-- No argument is a slice of the call's own. -/
theorem does_call' {x : Operand} {args : Array Operand} {ts : Array TypeId} {f : FuncId} {first captured : List A} {ds : List D} {r : D} (hx : e x = .fn (.func f) first captured) (hds : frzVs β (first ++ args.toList.map e ++ captured) = some ds) (hu : frzVsU β (first ++ args.toList.map e ++ captured) = []) (hpc : PC P f ds r) :
    Does P dst (.call { callee := .value x, args := args, argTypes := ts }) ty e β (.d r) [] ((first ++ args.toList.map e ++ captured).flatMap idsV) := by
  have := does_call (P := P) (dst := dst) (ty := ty) (args := args) (ts := ts) hx hds hpc
  rwa [hu] at this
theorem PC.sub {f : FuncId} {ds ds' : List D} {r r' : D} (h : PC P f ds r) (hs : SubDs ds' ds) (hr : SubD r r') : PC P f ds' r' :=
  ⟨h.enters, fun I w vs hI hv => (h.calls I w vs hI (hs.rep hv)).mono fun e w' ⟨v, h1, h2, h3⟩ => ⟨v, h1, hr _ _ _ h2, h3⟩⟩
theorem PC.args {f : FuncId} {ds ds' : List D} {r : D} (h : PC P f ds r) (hs : SubDs ds' ds) : PC P f ds' r := h.sub hs (SubD.refl r)
/-- One box is frozen. -/
theorem does_call1 {x : Operand} {args : Array Operand} {ts : Array TypeId} {f : FuncId} {first captured : List A} {ds : List D} {r : D} {i : Nat} {b : Box} (hx : e x = .fn (.func f) first captured) (hds : frzVs β (first ++ args.toList.map e ++ captured) = some ds) (hu : frzVsU β (first ++ args.toList.map e ++ captured) = [(i, b)]) (hpc : PC P f ds r) :
    Does P dst (.call { callee := .value x, args := args, argTypes := ts }) ty e β (.d r) [(i, b)] ((first ++ args.toList.map e ++ captured).flatMap idsV) := by
  have := does_call (P := P) (dst := dst) (ty := ty) (args := args) (ts := ts) hx hds hpc
  rwa [hu] at this
end

/-! ### what a body hands back -/
def resV (P : Program) (s : St) : ResultVar → A → Prop
  | .tmp t, v => look t s.σ = some v
  | .cell t T, v => ∃ id off T0 cs ty, look t s.σ = some (.px id off) ∧ look id s.β = some (.var T0 cs) ∧ mkTy P T = some ty ∧
      ((ty.row = false ∧ cs[off]? = some v) ∨ (ty.row = true ∧ off + ty.size ≤ cs.length ∧ v = .ag ((cs.drop off).take ty.size)))
def resVs (P : Program) (s : St) : List ResultVar → List A → Prop
  | [], vs => vs = []
  | r :: rs, vs => ∃ v vs', vs = v :: vs' ∧ resV P s r v ∧ resVs P s rs vs'
def resD : List D → D
  | [d] => d
  | ds => .tu ds
def RetOk (P : Program) (rs : List ResultVar) (r : D) (s : St) : Prop := ∃ vs ds, resVs P s rs vs ∧ frzVs s.β vs = some ds ∧ SubD (resD ds) r
def retE (P : Program) (rs : List ResultVar) (r : D) : Exit → St → Prop
  | .normal, s => RetOk P rs r s
  | .ret, s => RetOk P rs r s
  | _, _ => False
def argS : Nat → List D → Sl
  | _, [] => []
  | i, d :: ds => (i, .d d) :: argS (i + 1) ds
def resRun (tmps : Array Value) : ResultVar → Sem Value
  | .tmp t => pure (tmps.getD t undef)
  | .cell a t => do loadVar t (← asAddr (tmps.getD a undef))
section
variable {P : Program}
theorem resV_run {C : Ctx} {s : St} {ρ : Nat → Value} {I : Nat → Prop} {w : World} {a : Act} (hm : Mem C s.β ρ I w) (hf : Fr C s.σ s.β ρ I w a) {r : ResultVar} {v : A} (h : resV P s r v) : ∃ u, (resRun a.tmps r).run P w = .ok u w ∧ v.inB s.β ∧ RepA ρ I w v u := by
  cases r with
  | tmp t =>
    obtain ⟨h1, h2, h3⟩ := hf.val t v h
    exact ⟨_, rfl, h2, h3⟩
  | cell t T =>
    obtain ⟨id, off, T0, cs, tyi, h1, h2, ht, h4⟩ := h
    obtain ⟨_, _, h3⟩ := hf.val t _ h1
    obtain ⟨g, hg, hp⟩ := h3
    obtain ⟨g', us, k1, k2, k3, k4⟩ := var_cell hm h2
    rw [hg] at k1
    injection k1 with k1; injection k1 with k1; injection k1 with k1
    subst k1
    rcases h4 with ⟨hr, hv⟩ | ⟨hr, hlen, rfl⟩
    · obtain ⟨u, hu, hrep, _⟩ := repAs_get k3 hv
      refine ⟨u, ?_, A.insB_mem k4 v (List.mem_of_getElem? hv), hrep⟩
      have hl := run_loadVar_one (P := P) ht hr (w := w) (p := ⟨g, off, none⟩) (u := u) (by rw [cell_in k2]; simpa using hu)
      simp [resRun, hp, asAddr, Sem.run_bind, hl]
    · have h5 := repAs_take tyi.size (repAs_drop off k3)
      have hus := repAs_len k3
      have hl := run_loadVar_row' (P := P) (w := w) (g := g) (o := off) (cs := (us.toList.drop off).take tyi.size) ht hr (by rw [List.length_take, List.length_drop]; omega) (fun j u hu => by
        rw [List.getElem?_take] at hu
        split at hu
        · rw [List.getElem?_drop] at hu
          rw [cell_in k2]
          simpa using hu
        · cases hu)
      refine ⟨_, ?_, A.insB_of fun z hz => A.insB_mem k4 z (List.mem_of_mem_drop (List.mem_of_mem_take hz)), _, rfl, h5⟩
      simp [resRun, hp, asAddr, Sem.run_bind, hl]
theorem resVs_run {C : Ctx} {s : St} {ρ : Nat → Value} {I : Nat → Prop} {w : World} {a : Act} (hm : Mem C s.β ρ I w) (hf : Fr C s.σ s.β ρ I w a) : ∀ {rs : List ResultVar} {vs : List A}, resVs P s rs vs → ∃ us, (rs.mapM (resRun a.tmps)).run P w = .ok us w ∧ A.insB s.β vs ∧ RepAs ρ I w false vs us
  | [], vs, h => by cases h; exact ⟨[], by simp, trivial, rfl⟩
  | r :: rs, _, ⟨v, vs, rfl, h1, h2⟩ => by
    obtain ⟨u, a1, a2, a3⟩ := resV_run hm hf h1
    obtain ⟨us, b1, b2, b3⟩ := resVs_run hm hf h2
    refine ⟨u :: us, ?_, ⟨a2, b2⟩, u, us, rfl, fun h => by (cases h), a3, b3⟩
    rw [List.mapM_cons]
    simp only [Sem.run_bind, a1, Result.andThen_ok, b1, Sem.run_pure]
theorem frz_len {β : Bx} : ∀ {vs : List A} {ds : List D}, frzVs β vs = some ds → ds.length = vs.length
  | [], ds, h => by simp only [frzVs, Option.some.injEq] at h; subst h; rfl
  | v :: vs, ds, h => by
    simp only [frzVs] at h
    split at h
    · rename_i d ds' h1 h2; simp only [Option.some.injEq] at h; subst h; simp [frz_len h2]
    · cases h
theorem argS_look : ∀ {ds : List D} {k t : Nat} {v : A}, look t (argS k ds) = some v → ∃ i d, t = k + i ∧ ds[i]? = some d ∧ v = .d d
  | d :: ds, k, t, v, h => by
    rw [argS, look_cons] at h
    split at h
    · rename_i hk; injection h with h; exact ⟨0, d, by omega, rfl, h.symm⟩
    · obtain ⟨i, d', h1, h2, h3⟩ := argS_look h
      exact ⟨i + 1, d', by omega, by simpa using h2, h3⟩
/-- A function's contract, by its body's walk. -/
theorem pc_of_wp {f : FuncId} {fn : Func} {c : Code} {ds : List D} {r : D} {rs : List ResultVar} (hf : P.funcs[f]? = some fn) (hb : fn.body = some c) (hn : (fn.name == "runtime.NumGoroutine") = false) (hds : ds.length ≤ fn.ntmps)
    (hrs : fn.results = rs.toArray) (h : ∀ (C : Ctx) (a : Act) (w : World), C.K = (fun _ => false) → C.N = fn.ntmps → At C ⟨argS 0 ds, []⟩ a w → c.wp P (lift C (retE P rs r)) a w) : PC P f ds r := by
  refine ⟨enters_of hf hb hn, fun I w vs hI hr => ?_⟩
  refine calls_of_wp hf hb ?_
  have hvl := repC_len hr
  rw [Array.length_toList] at hvl
  let C : Ctx := { w0 := w, PB := fun _ => False, I0 := I, N := fn.ntmps, K := fun _ => false, args := fun _ => undef }
  have hat : At C ⟨argS 0 ds, []⟩ { tmps := vs ++ Array.replicate (fn.ntmps - vs.size) undef, defers := [] } w := by
    refine ⟨fun _ => undef, I, ⟨rfl, rfl, rfl, Nat.le_refl _, fun _ _ _ => rfl, hI.1, fun g hg => .inl hg, fun id b h => by (cases h), fun id b g h => by (cases h), fun i j b b' g h => by (cases h), fun id b h => by (cases h), hI.2⟩, rfl, ?_, fun t ht => (by cases ht), fun t v ht => ?_⟩
    · show (vs ++ Array.replicate (fn.ntmps - vs.size) undef).size = fn.ntmps
      simp; omega
    · obtain ⟨i, d, h1, h2, rfl⟩ := argS_look ht
      obtain ⟨u, h3, h4, _⟩ := repC_get hr h2
      have hlt : i < vs.size := by rw [← Array.length_toList]; exact (List.getElem?_eq_some_iff.1 h3).1
      rw [Nat.zero_add] at h1
      subst h1
      refine ⟨by show t < fn.ntmps; omega, trivial, ?_⟩
      have e1 : (vs ++ Array.replicate (fn.ntmps - vs.size) undef).getD t undef = u := by
        rw [Array.getD_eq_getD_getElem?, Array.getElem?_append_left hlt]
        have : vs[t]? = some u := by simpa using h3
        rw [this]; rfl
      show RepD I w d ((vs ++ Array.replicate (fn.ntmps - vs.size) undef).getD t undef)
      rw [e1]; exact h4
  have hfin : ∀ s a' w', RetOk P rs r s → At C s a' w' → a'.defers = [] ∧ ∃ v, (results fn a'.tmps).run P w' = .ok v w' ∧ (∃ v', Ending.returned v = .returned v' ∧ RepD (fun g => (I g ∨ w.heap.size ≤ g) ∧ g < w'.heap.size) w' r v' ∧ Below w.heap.size w w') := by
    rintro s a' w' ⟨vs', ds', h1, h2, hsub⟩ ⟨ρ, J, hm, hfr⟩
    obtain ⟨us, k1, k2, k3⟩ := resVs_run hm hfr h1
    obtain ⟨J', m1, x1, r1, _⟩ := freeze_vals _ _ ds' s.β J hm k2 k3 h2
    have hul := repC_len r1
    have hx : ExtI J' w' (fun g => (I g ∨ w.heap.size ≤ g) ∧ g < w'.heap.size) w' := ⟨fun g hg => ⟨by
      rcases m1.new g hg with h | h | h
      · exact .inl h
      · exact .inr h
      · exact h.elim, m1.imm g hg⟩, fun _ _ => rfl⟩
    have hbel : Below w.heap.size w w' := ⟨m1.os, m1.tape, m1.output, m1.size, fun k hk => m1.frame k hk (fun h => h)⟩
    refine ⟨hfr.defers, (if h : us.toArray.size = 1 then us.toArray[0] else .tuple us.toArray), ?_, _, rfl, ?_, hbel⟩
    · have hrm : ∀ fn' : Func, fn'.results = rs.toArray → results fn' a'.tmps = (do
          let vs ← rs.toArray.mapM (resRun a'.tmps)
          pure (if h : vs.size = 1 then vs[0] else .tuple vs)) := fun fn' h' => by
        unfold results
        rw [h']
        congr 1
      rw [hrm fn hrs, List.mapM_toArray]
      simp only [map_eq_pure_bind, bind_assoc, pure_bind, Sem.run_bind, k1, Result.andThen_ok, Sem.run_pure]
    · refine hsub _ _ _ ?_
      cases ds' with
      | nil =>
        cases r1
        refine ⟨#[], by rfl, rfl⟩
      | cons d ds1 =>
        obtain ⟨u, us1, rfl, _, hd, hrest⟩ := r1
        cases ds1 with
        | nil =>
          cases hrest
          exact RepD.ext hx d u hd
        | cons d2 ds2 =>
          have hl2 := repC_len hrest
          rw [dif_neg (by simp [hl2])]
          refine ⟨_, rfl, ?_⟩
          have := RepC.ext hx false (d :: d2 :: ds2) (u :: us1) ⟨u, us1, rfl, fun h => by (cases h), hd, hrest⟩
          simpa using this
  refine wp_mono (h C _ w rfl rfl hat) fun en a' w' hq => ?_
  obtain ⟨s, hq, ha⟩ := hq
  cases en with
  | normal => exact hfin s a' w' hq ha
  | ret => exact hfin s a' w' hq ha
  | _ => exact hq.elim
/-- A function's contract, by its body. -/
theorem pc_of_aw {f : FuncId} {fn : Func} {c : Code} {ds : List D} {r : D} {rs : List ResultVar} (hf : P.funcs[f]? = some fn) (hb : fn.body = some c) (hn : (fn.name == "runtime.NumGoroutine") = false) (hmx : P.follows .mixedOrders = true) (hok : codeOk (fun _ => false) fn.ntmps c = true) (hds : ds.length ≤ fn.ntmps)
    (hrs : fn.results = rs.toArray) (h : AW P c (retE P rs r) ⟨argS 0 ds, []⟩) : PC P f ds r :=
  pc_of_wp hf hb hn hds hrs fun C a w hK hN ha => aw_sound hmx c _ _ a w (by rw [hK, hN]; exact hok) h ha
end
end Go.Proofs.YtfkkamkhjbfjmaaDoor
