/-
  The pure layer: a region, in the order of its text and in whatever order its edges allow. No condition.
-/
import Derived.Test.YtfkkamkhjbfjmaaDoorPl
import Derived.RegionTactic
namespace Go.Proofs.YtfkkamkhjbfjmaaDoor
set_option linter.unusedSimpArgs false
set_option linter.unusedVariables false
open Go.RowKit

theorem oneCell_nil : (Value.slice none 0 0).oneCell' = true := rfl
theorem Fr.ev {C : Ctx} {σ : Sl} {β : Bx} {ρ : Nat → Value} {I : Nat → Prop} {w : World} {a : Act} (hm : Mem C β ρ I w) (h : Fr C σ β ρ I w a) (x : Operand) : (ev σ x).inB β ∧ RepA ρ I w (ev σ x) (a.eval x) := by
  cases x with
  | tmp t =>
    show ((look t σ).getD .un).inB β ∧ RepA ρ I w ((look t σ).getD .un) (a.tmps.getD t undef)
    cases ht : look t σ with
    | none => exact ⟨trivial, trivial⟩
    | some v => exact (h.val t v ht).2
  | const v =>
    show (evC v).inB β ∧ RepA ρ I w (evC v) v
    unfold evC
    split
    · exact ⟨trivial, rfl⟩
    · split
      · rename_i h1
        exact ⟨trivial, rfl, h1⟩
      · exact ⟨trivial, trivial⟩
  | global g =>
    show (match Gs g with | some cs => A.pe cs.length [cs] 0 0 | none => A.un).inB β ∧ RepA ρ I w (match Gs g with | some cs => A.pe cs.length [cs] 0 0 | none => A.un) (.pointer (some ⟨g, 0, none⟩))
    cases hg : Gs g with
    | none => exact ⟨trivial, trivial⟩
    | some cs =>
      obtain ⟨h1, xs, h2, h3⟩ := hm.gl g cs hg
      exact ⟨trivial, Nat.one_pos, xs, g, 0, h2, by simp, h1, fun j u hu => by rw [Nat.zero_add]; exact h3 j u hu⟩
  | func f => exact ⟨⟨trivial, trivial⟩, #[], #[], rfl, rfl, rfl⟩
theorem Ext.refl (β : Bx) (ρ : Nat → Value) (I : Nat → Prop) (w : World) : Ext β ρ I w ρ I w := ⟨⟨fun _ h => h, fun _ _ => rfl⟩, fun _ _ => rfl⟩

def tmpsOf : List Operand → List Nat
  | [] => []
  | .tmp t :: r => t :: tmpsOf r
  | _ :: r => tmpsOf r
def insOf (all : List Oper) (o : Oper) : List Nat := (match guardT all o with
  | some (some (t, _)) => [t]
  | _ => []) ++ tmpsOf o.op.operands.toList
theorem tmpsOf_mem {t : Nat} : ∀ {l : List Operand}, Operand.tmp t ∈ l → t ∈ tmpsOf l
  | x :: r, h => by
    rcases List.mem_cons.1 h with rfl | h
    · simp [tmpsOf]
    · have := tmpsOf_mem h
      cases x <;> simp [tmpsOf, this]
theorem ev_eq {σ τ : Sl} {l : List Operand} (h : ∀ t ∈ tmpsOf l, look t τ = look t σ) : ∀ x ∈ l, ev τ x = ev σ x := by
  intro x hx
  cases x with
  | tmp t => show (look t τ).getD .un = (look t σ).getD .un; rw [h t (tmpsOf_mem hx)]
  | const v => rfl
  | global g => rfl
  | func f => rfl
theorem gates_mem {x : Bool} {e : Operand → A} : ∀ {l : List Operand}, gates x e l → ∀ y ∈ l, gdOk x (e y)
  | z :: r, h, y, hy => by
    rcases List.mem_cons.1 hy with rfl | hy
    · exact h.1
    · exact gates_mem h.2 y hy
theorem strip_ok {C : Ctx} {β : Bx} {ρ : Nat → Value} {I : Nat → Prop} {w : World} {v : A} {u : Value} (hg : gdOk true v) (hb : v.inB β) (hr : RepA ρ I w v u) : (stripA v).inB β ∧ RepA ρ I w (stripA v) u := by
  cases v with
  | gd y v =>
    have hy : y = true := hg rfl
    refine ⟨hb hy, ?_⟩
    unfold RepA at hr
    rw [if_pos hy] at hr
    exact hr
  | _ => exact ⟨hb, hr⟩
def putS (t : Option Nat) (v : A) (σ : Sl) : Sl := match t with
  | some t => (t, v) :: σ
  | none => σ
theorem look_putS (t : Option Nat) (v : A) (σ : Sl) (k : Nat) : look k (putS t v σ) = if t = some k then some v else look k σ := by
  cases t with
  | none => simp [putS]
  | some t => simp [putS, look_cons]

theorem rep_sc {I : Nat → Prop} {w : World} {v x : Value} (h : RepD I w (.sc v) x) : x = v := h.1
theorem repA_sc {ρ : Nat → Value} {I : Nat → Prop} {w : World} {v x : Value} (h : RepA ρ I w (.d (.sc v)) x) : x = v := h.1
theorem repA_gd_t {ρ : Nat → Value} {I : Nat → Prop} {w : World} {v : A} {x : Value} {y : Bool} (h : RepA ρ I w (.gd y v) x) (hy : y = true) : RepA ρ I w v x := by
  unfold RepA at h
  rwa [if_pos hy] at h
theorem repA_gd_f {ρ : Nat → Value} {I : Nat → Prop} {w : World} {v : A} {x : Value} {y : Bool} (h : RepA ρ I w (.gd y v) x) (hy : ¬ y = true) : x = undef := by
  unfold RepA at h
  rwa [if_neg hy] at h
theorem gval_yields {C : Ctx} {σ : Sl} {β : Bx} {ρ : Nat → Value} {I : Nat → Prop} {w : World} {a : Act} (hf : Fr C σ β ρ I w a) {all : List Oper} {o : Oper} {t : Nat} {want x : Bool} (hgd : guardT all o = some (some (t, want)))
    (hx : gval σ t want = some x) : Region.wanted o (yielded all.toArray a.tmps) = x := by
  unfold guardT at hgd
  cases hg : o.guard with
  | none => rw [hg] at hgd; simp at hgd
  | some p =>
    obtain ⟨j, want'⟩ := p
    rw [hg] at hgd
    simp only [Option.some.injEq] at hgd
    cases hj : (all[j]?).bind (·.dst) with
    | none => rw [hj] at hgd; simp at hgd
    | some t' =>
      rw [hj] at hgd
      simp only [Option.map_some, Option.some.injEq, Prod.mk.injEq] at hgd
      obtain ⟨rfl, rfl⟩ := hgd
      have hyl : ∀ u, a.tmps.getD t' undef = u → t' < a.tmps.size → yielded all.toArray a.tmps j = (match u with | .bool b => some b | _ => none) := by
        intro u hu hlt
        unfold yielded
        have e1 : ((all.toArray[j]?).bind (·.dst)) = some t' := by simpa using hj
        rw [e1]
        simp only [Option.bind_some]
        rw [Array.getElem?_eq_getElem hlt]
        rw [Array.getD_eq_getD_getElem?, Array.getElem?_eq_getElem hlt, Option.getD_some] at hu
        rw [hu]
        cases u <;> rfl
      unfold gval at hx
      cases ht : look t' σ with
      | none => rw [ht] at hx; simp at hx
      | some v =>
        rw [ht] at hx
        obtain ⟨hlt, _, hrep⟩ := hf.val t' v ht
        rw [← hf.size] at hlt
        simp only [Region.wanted, hg]
        split at hx
        · rename_i b heq
          simp only [Option.some.injEq] at heq hx
          subst heq hx
          rw [hyl _ (repA_sc hrep) hlt]
          cases b <;> cases want' <;> rfl
        · rename_i y b heq
          simp only [Option.some.injEq] at heq hx
          subst heq hx
          by_cases hy : y = true
          · rw [hyl _ (repA_sc (repA_gd_t hrep hy)) hlt, hy]
            cases b <;> cases want' <;> rfl
          · rw [hyl _ (repA_gd_f hrep hy) hlt]
            have : y = false := by simpa using hy
            subst this
            rfl
        · simp at hx
theorem step_ok {P : Program} {all : List Oper} {σ τ : Sl} {β γ : Bx} {o : Oper} {v : A} {ups : Bx} {rd : List Nat} (h : StepSem P all σ β o v ups rd) {C : Ctx} (hag : Agreeing β γ (rd ++ ups.map (·.1)))
    (hτ : ∀ t ∈ insOf all o, look t τ = look t σ) {ρ : Nat → Value} {I : Nat → Prop} {w : World} {a : Act} (hm : Mem C γ ρ I w) (hf : Fr C τ γ ρ I w a) (K : Act → World → Prop) (Q : Exit → Act → World → Prop)
    (hK : ∀ vv ρ' I' w', Mem C (ups ++ γ) ρ' I' w' → Ext γ ρ I w ρ' I' w' → v.inB (ups ++ γ) → RepA ρ' I' w' v vv → K (a.put o.dst vv) w') :
    if Region.wanted o (yielded all.toArray a.tmps) = true then Oper.wp P o a w K Q else K (a.put o.dst undef) w := by
  have hev : ∀ x ∈ o.op.operands.toList, ev τ x = ev σ x := ev_eq fun t ht => hτ t (by unfold insOf; exact List.mem_append_right _ ht)
  unfold StepSem at h
  cases hg : guardT all o with
  | none =>
    rw [hg] at h
    have hno : o.guard = none := by
      unfold guardT at hg
      cases hgo : o.guard with
      | none => rfl
      | some p => rw [hgo] at hg; simp at hg
    rw [if_pos (by simp [Region.wanted, hno])]
    exact h C γ hag ρ I w hm a (fun x hx => by rw [← hev x hx]; exact hf.ev hm x) o rfl rfl rfl K Q hK
  | some p =>
    cases p with
    | none => rw [hg] at h; exact h.elim
    | some p =>
      obtain ⟨t, want⟩ := p
      rw [hg] at h
      rcases h with ⟨x, v', sel, hx, hgt, rfl, rfl, hd⟩ | ⟨sel, hx, hgt, hd⟩
      rotate_left
      · have hx2 : gval τ t want = some true := by
          unfold gval at hx ⊢
          rw [hτ t (by unfold insOf; rw [hg]; simp)]
          exact hx
        rw [gval_yields hf hg hx2, if_pos rfl]
        refine hd C γ hag ρ I w hm a (fun y hy => ?_) o rfl rfl rfl K Q hK
        have := hf.ev hm y
        rw [hev y hy] at this
        have hg1 := gates_mem hgt y hy
        unfold selU at hg1
        unfold selA
        cases hs : sel y with
        | true =>
          rw [hs] at hg1
          exact strip_ok (C := C) hg1 this.1 this.2
        | false => exact this
      have hx2 : gval τ t want = some x := by
        unfold gval at hx ⊢
        rw [hτ t (by unfold insOf; rw [hg]; simp)]
        exact hx
      rw [gval_yields hf hg hx2]
      cases x with
      | true =>
        rw [if_pos rfl]
        refine hd rfl C γ hag ρ I w hm a (fun y hy => ?_) o rfl rfl rfl K Q (fun vv ρ' I' w' h1 h2 h3 h4 => hK vv ρ' I' w' h1 h2 (fun _ => h3) ?_)
        · have := hf.ev hm y
          rw [hev y hy] at this
          have hg1 := gates_mem hgt y hy
          unfold selU at hg1
          unfold selA
          cases hs : sel y with
          | true =>
            rw [hs] at hg1
            exact strip_ok (C := C) hg1 this.1 this.2
          | false => exact this
        · unfold RepA; rw [if_pos rfl]; exact h4
      | false =>
        rw [if_neg (by simp)]
        refine hK undef ρ I w (by simpa using hm) (Ext.refl _ _ _ _) (fun h => by cases h) ?_
        unfold RepA; rw [if_neg (by simp)]
theorem Fr.put {C : Ctx} {σ : Sl} {β : Bx} {ρ ρ' : Nat → Value} {I I' : Nat → Prop} {w w' : World} {a : Act} (hf : Fr C σ β ρ I w a) {ups : Bx} (hx : Ext β ρ I w ρ' I' w') {dst : Option Nat} (hd : ∀ t, dst = some t → C.K t = false ∧ t < C.N) {v : A} {vv : Value}
    (hb : v.inB (ups ++ β)) (hr : RepA ρ' I' w' v vv) : Fr C (putS dst v σ) (ups ++ β) ρ' I' w' (a.put dst vv) := by
  have hold : ∀ t u, look t σ = some u → t < C.N ∧ u.inB (ups ++ β) ∧ RepA ρ' I' w' u (a.tmps.getD t undef) := fun t u hu => by
    obtain ⟨h1, h2, h3⟩ := hf.val t u hu
    exact ⟨h1, A.inB_mono (fun i hi => dom_append hi) u h2, RepA.ext hx u _ h2 h3⟩
  cases dst with
  | none => exact ⟨hf.defers, hf.size, hf.keep, hold⟩
  | some d =>
    have hdN := (hd d rfl).2
    have hdK := (hd d rfl).1
    refine ⟨hf.defers, by simpa [Act.put] using hf.size, fun t ht => ?_, fun t u hu => ?_⟩
    · show (a.tmps.setIfInBounds d vv).getD t undef = C.args t
      have : (a.tmps.setIfInBounds d vv).getD t undef = a.tmps.getD t undef := by simp [Array.getD_eq_getD_getElem?, Array.getElem?_setIfInBounds_ne (show d ≠ t from fun h => by rw [h, ht] at hdK; cases hdK)]
      rw [this]; exact hf.keep t ht
    show t < C.N ∧ _ ∧ RepA ρ' I' w' u ((a.tmps.setIfInBounds d vv).getD t undef)
    rw [look_putS] at hu
    by_cases hdt : d = t
    · subst hdt
      rw [if_pos rfl] at hu
      simp only [Option.some.injEq] at hu
      subst hu
      refine ⟨hdN, hb, ?_⟩
      have : (a.tmps.setIfInBounds d vv).getD d undef = vv := by simp [Array.getD_eq_getD_getElem?, hf.size, hdN]
      rw [this]; exact hr
    · rw [if_neg (by simpa using hdt)] at hu
      have : (a.tmps.setIfInBounds d vv).getD t undef = a.tmps.getD t undef := by simp [Array.getD_eq_getD_getElem?, Array.getElem?_setIfInBounds_ne hdt]
      rw [this]; exact hold t u hu

/-- A region in the order of its text. -/
def runP (P : Program) (all : List Oper) : List Oper → Sl → Bx → (Sl → Bx → Prop) → Prop
  | [], σ, β, K => K σ β
  | o :: r, σ, β, K => ∃ v ups rd, StepSem P all σ β o v ups rd ∧ runP P all r (putS o.dst v σ) (ups ++ β) K
def dstsOk (K : Nat → Bool) (N : Nat) (ops : List Oper) : Bool := ops.all fun o => match o.dst with
  | some t => !(K t) && decide (t < N)
  | none => true
theorem runP_sound {P : Program} {all : List Oper} {C : Ctx} {Q : Exit → Act → World → Prop} {K : Sl → Bx → Prop} (hQ : ∀ σ β ρ I w a, K σ β → Mem C β ρ I w → Fr C σ β ρ I w a → Q .normal a w) :
    ∀ (ops : List Oper) (σ : Sl) (β : Bx) (ρ : Nat → Value) (I : Nat → Prop) (w : World) (a : Act), dstsOk C.K C.N ops = true → runP P all ops σ β K → Mem C β ρ I w → Fr C σ β ρ I w a → wpList P all.toArray Q ops a w
  | [], σ, β, ρ, I, w, a, _, h, hm, hf => hQ σ β ρ I w a h hm hf
  | o :: r, σ, β, ρ, I, w, a, hd, ⟨v, ups, rd, hs, h⟩, hm, hf => by
    simp only [dstsOk, List.all_cons, Bool.and_eq_true] at hd
    refine wpList_step fun K' hK' => ?_
    refine step_ok hs (fun _ _ => rfl) (fun _ _ => rfl) hm hf K' Q fun vv ρ' I' w' h1 h2 h3 h4 => hK' _ _ ?_
    refine runP_sound hQ r _ _ ρ' I' w' _ hd.2 h h1 (hf.put h2 (fun t ht => ?_) h3 h4)
    have := hd.1
    rw [ht] at this
    simpa using this

structure Rec where
  dst : Option Nat
  ins : List Nat
  rd : List Nat
  wr : List Nat
  after : List Nat
def mkRec (all : List Oper) (o : Oper) (ups : Bx) (rd : List Nat) : Rec :=
  { dst := o.dst, ins := insOf all o, rd := rd, wr := ups.map (·.1), after := (o.after.toList.filter (Region.binds .any)).map (·.on) }
def meets (l m : List Nat) : Bool := l.any fun x => m.any fun y => x == y
def apart (a b : Rec) : Bool := !(meets a.dst.toList b.ins) && !(meets b.dst.toList a.ins) && !(meets a.dst.toList b.dst.toList) && !(meets a.wr b.rd) && !(meets a.wr b.wr) && !(meets a.rd b.wr)
/-- The operations that must have run ahead of each, by number. -/
def ancs : List Rec → List (List Nat) → List (List Nat)
  | [], acc => acc
  | r :: rs, acc => ancs rs (acc ++ [r.after ++ r.after.flatMap fun i => (acc[i]?).getD []])
def okOrder (rs : List Rec) : Bool :=
  (List.range rs.length).all fun j => match rs[j]?, (ancs rs [])[j]? with
    | some b, some aj => b.after.all (fun i => decide (i < j)) && (List.range j).all fun i => aj.any (fun k => k == i) || (match rs[i]? with | some a => apart a b | none => true)
    | _, _ => false
/-- A region that draws its order. -/
def runD (P : Program) (all : List Oper) : List Oper → Sl → Bx → List Rec → (Sl → Bx → Prop) → Prop
  | [], σ, β, rs, K => okOrder rs.reverse = true ∧ K σ β
  | o :: r, σ, β, rs, K => ∃ v ups rd, StepSem P all σ β o v ups rd ∧ runD P all r (putS o.dst v σ) (ups ++ β) (mkRec all o ups rd :: rs) K

structure Item where
  o : Oper
  v : A
  ups : Bx
  rd : List Nat
def Item.note (all : List Oper) (it : Item) : Rec := mkRec all it.o it.ups it.rd
def stateOf (S : Nat → Bool) : List Item → Nat → Sl → Bx → Sl × Bx
  | [], _, σ, β => (σ, β)
  | it :: r, i, σ, β => if S i = true then stateOf S r (i + 1) (putS it.o.dst it.v σ) (it.ups ++ β) else stateOf S r (i + 1) σ β
def Tr (P : Program) (all : List Oper) : List Item → Sl → Bx → Prop
  | [], _, _ => True
  | it :: r, σ, β => StepSem P all σ β it.o it.v it.ups it.rd ∧ Tr P all r (putS it.o.dst it.v σ) (it.ups ++ β)
theorem runD_items {P : Program} {all : List Oper} {K : Sl → Bx → Prop} : ∀ (ops : List Oper) (σ : Sl) (β : Bx) (rs : List Rec) (k : Nat), runD P all ops σ β rs K →
    ∃ its : List Item, its.map (·.o) = ops ∧ Tr P all its σ β ∧ okOrder (rs.reverse ++ its.map (Item.note all)) = true ∧ K (stateOf (fun _ => true) its k σ β).1 (stateOf (fun _ => true) its k σ β).2
  | [], σ, β, rs, k, h => ⟨[], rfl, trivial, by simpa using h.1, h.2⟩
  | o :: r, σ, β, rs, k, ⟨v, ups, rd, hs, h⟩ => by
    obtain ⟨its, h1, h2, h3, h4⟩ := runD_items r _ _ _ (k + 1) h
    refine ⟨⟨o, v, ups, rd⟩ :: its, by simp [h1], ⟨hs, h2⟩, ?_, h4⟩
    simpa [Item.note] using h3
theorem state_slot (t : Nat) (S S' : Nat → Bool) : ∀ (its : List Item) (k : Nat) (σ σ' : Sl) (β β' : Bx), (∀ i it, its[i]? = some it → it.o.dst = some t → S (k + i) = S' (k + i)) → look t σ = look t σ' →
    look t (stateOf S its k σ β).1 = look t (stateOf S' its k σ' β').1
  | [], k, σ, σ', β, β', h, e => e
  | it :: r, k, σ, σ', β, β', h, e => by
    have hr : ∀ i it', r[i]? = some it' → it'.o.dst = some t → S (k + 1 + i) = S' (k + 1 + i) := fun i it' hi hd => by
      have := h (i + 1) it' (by simpa using hi) hd
      rwa [show k + (i + 1) = k + 1 + i by omega] at this
    unfold stateOf
    by_cases hd : it.o.dst = some t
    · have h0 := h 0 it rfl hd
      rw [Nat.add_zero] at h0
      rw [h0]
      split
      · exact state_slot t S S' r _ _ _ _ _ hr (by rw [look_putS, look_putS, if_pos hd, if_pos hd])
      · exact state_slot t S S' r _ _ _ _ _ hr e
    · split <;> split <;> exact state_slot t S S' r _ _ _ _ _ hr (by simp only [look_putS, if_neg hd, e])
theorem state_box (id : Nat) (S S' : Nat → Bool) : ∀ (its : List Item) (k : Nat) (σ σ' : Sl) (β β' : Bx), (∀ i it, its[i]? = some it → id ∈ it.ups.map (·.1) → S (k + i) = S' (k + i)) → look id β = look id β' →
    look id (stateOf S its k σ β).2 = look id (stateOf S' its k σ' β').2
  | [], k, σ, σ', β, β', h, e => e
  | it :: r, k, σ, σ', β, β', h, e => by
    have hr : ∀ i it', r[i]? = some it' → id ∈ it'.ups.map (·.1) → S (k + 1 + i) = S' (k + 1 + i) := fun i it' hi hd => by
      have := h (i + 1) it' (by simpa using hi) hd
      rwa [show k + (i + 1) = k + 1 + i by omega] at this
    unfold stateOf
    by_cases hd : id ∈ it.ups.map (·.1)
    · have h0 := h 0 it rfl hd
      rw [Nat.add_zero] at h0
      rw [h0]
      split
      · exact state_box id S S' r _ _ _ _ _ hr (by rw [look_append, look_append, e])
      · exact state_box id S S' r _ _ _ _ _ hr e
    · have hn : look id it.ups = none := look_none hd
      split <;> split <;> exact state_box id S S' r _ _ _ _ _ hr (by simp only [look_append, hn, Option.none_or, e])
theorem stateOf_cons (S : Nat → Bool) (it : Item) (r : List Item) (k : Nat) (σ : Sl) (β : Bx) : stateOf S (it :: r) k σ β = if S k = true then stateOf S r (k + 1) (putS it.o.dst it.v σ) (it.ups ++ β) else stateOf S r (k + 1) σ β := rfl
theorem stateOf_none (S : Nat → Bool) : ∀ (r : List Item) (k : Nat) (σ : Sl) (β : Bx), (∀ i, k ≤ i → S i = false) → stateOf S r k σ β = (σ, β) := by
  intro r
  induction r with
  | nil => intros; rfl
  | cons x r ih =>
    intro k σ β h
    rw [stateOf_cons, if_neg (by simp [h k (Nat.le_refl k)])]
    exact ih _ _ _ fun i hi => h i (by omega)
/-- Operation j comes last: what it writes stands. -/
theorem state_add_slot (S : Nat → Bool) (j t : Nat) (it : Item) (hj : S j = false) : ∀ (its : List Item) (k : Nat) (σ : Sl) (β : Bx) (m : Nat), its[m]? = some it → k + m = j →
    (∀ i it', m < i → its[i]? = some it' → it'.o.dst = some t → it.o.dst = some t → S (k + i) = false) →
    look t (stateOf (fun i => S i || i == j) its k σ β).1 = look t (putS it.o.dst it.v (stateOf S its k σ β).1) := by
  intro its
  induction its with
  | nil => intro k σ β m hm; simp at hm
  | cons it0 r ih =>
    intro k σ β m hm hk hn
    rw [stateOf_cons, stateOf_cons]
    cases m with
    | zero =>
      simp only [List.getElem?_cons_zero, Option.some.injEq] at hm
      subst hm
      have hkj : k = j := by omega
      subst hkj
      rw [if_pos (by simp), if_neg (by simp [hj]), look_putS]
      by_cases hd : it0.o.dst = some t
      · rw [if_pos hd]
        have e := state_slot t (fun i => S i || i == k) (fun _ => false) r (k + 1) (putS it0.o.dst it0.v σ) (putS it0.o.dst it0.v σ) (it0.ups ++ β) β (fun i it' hi hd' => by
          have h1 := hn (i + 1) it' (by omega) (by simpa using hi) hd' hd
          have hne : (k + 1 + i == k) = false := by simp; omega
          rw [show k + (i + 1) = k + 1 + i by omega] at h1
          simp [h1, hne]) rfl
        rw [e, stateOf_none _ _ _ _ _ (fun _ _ => rfl), look_putS, if_pos hd]
      · rw [if_neg hd]
        refine state_slot t _ _ r (k + 1) _ _ _ _ (fun i it' hi hd' => ?_) (by rw [look_putS, if_neg hd])
        have hne : (k + 1 + i == k) = false := by simp; omega
        simp [hne]
    | succ m =>
      have hkj : (k == j) = false := by simp; omega
      have hr2 : ∀ i it', m < i → r[i]? = some it' → it'.o.dst = some t → it.o.dst = some t → S (k + 1 + i) = false := fun i it' hmi hi hd hd0 => by
        have := hn (i + 1) it' (by omega) (by simpa using hi) hd hd0
        rwa [show k + (i + 1) = k + 1 + i by omega] at this
      simp only [hkj, Bool.or_false]
      split
      · exact ih (k + 1) _ _ m (by simpa using hm) (by omega) hr2
      · exact ih (k + 1) _ _ m (by simpa using hm) (by omega) hr2
theorem state_add_box (S : Nat → Bool) (j id : Nat) (it : Item) (hj : S j = false) : ∀ (its : List Item) (k : Nat) (σ : Sl) (β : Bx) (m : Nat), its[m]? = some it → k + m = j →
    (∀ i it', m < i → its[i]? = some it' → id ∈ it'.ups.map (·.1) → id ∈ it.ups.map (·.1) → S (k + i) = false) →
    look id (stateOf (fun i => S i || i == j) its k σ β).2 = look id (it.ups ++ (stateOf S its k σ β).2) := by
  intro its
  induction its with
  | nil => intro k σ β m hm; simp at hm
  | cons it0 r ih =>
    intro k σ β m hm hk hn
    rw [stateOf_cons, stateOf_cons]
    cases m with
    | zero =>
      simp only [List.getElem?_cons_zero, Option.some.injEq] at hm
      subst hm
      have hkj : k = j := by omega
      subst hkj
      rw [if_pos (by simp), if_neg (by simp [hj]), look_append]
      by_cases hd : id ∈ it0.ups.map (·.1)
      · obtain ⟨b, hb⟩ := look_some_of hd
        have e := state_box id (fun i => S i || i == k) (fun _ => false) r (k + 1) (putS it0.o.dst it0.v σ) σ (it0.ups ++ β) (it0.ups ++ β) (fun i it' hi hd' => by
          have h1 := hn (i + 1) it' (by omega) (by simpa using hi) hd' hd
          have hne : (k + 1 + i == k) = false := by simp; omega
          rw [show k + (i + 1) = k + 1 + i by omega] at h1
          simp [h1, hne]) rfl
        rw [e, stateOf_none _ _ _ _ _ (fun _ _ => rfl), look_append, hb]
        rfl
      · rw [look_none hd, Option.none_or]
        refine state_box id _ _ r (k + 1) _ _ _ _ (fun i it' hi hd' => ?_) (by rw [look_append, look_none hd, Option.none_or])
        have hne : (k + 1 + i == k) = false := by simp; omega
        simp [hne]
    | succ m =>
      have hkj : (k == j) = false := by simp; omega
      have hr2 : ∀ i it', m < i → r[i]? = some it' → id ∈ it'.ups.map (·.1) → id ∈ it.ups.map (·.1) → S (k + 1 + i) = false := fun i it' hmi hi hd hd0 => by
        have := hn (i + 1) it' (by omega) (by simpa using hi) hd hd0
        rwa [show k + (i + 1) = k + 1 + i by omega] at this
      simp only [hkj, Bool.or_false]
      split
      · exact ih (k + 1) _ _ m (by simpa using hm) (by omega) hr2
      · exact ih (k + 1) _ _ m (by simpa using hm) (by omega) hr2
theorem tr_get {P : Program} {all : List Oper} : ∀ (its : List Item) (k : Nat) (σ : Sl) (β : Bx), Tr P all its σ β → ∀ (j : Nat) (it : Item), its[j]? = some it →
    StepSem P all (stateOf (fun i => decide (i < k + j)) its k σ β).1 (stateOf (fun i => decide (i < k + j)) its k σ β).2 it.o it.v it.ups it.rd := by
  intro its
  induction its with
  | nil => intro k σ β h j it hj; simp at hj
  | cons it0 r ih =>
    intro k σ β h j it hj
    cases j with
    | zero =>
      simp only [List.getElem?_cons_zero, Option.some.injEq] at hj
      subst hj
      rw [stateOf_none _ _ _ _ _ (fun i hi => by simp; omega)]
      exact h.1
    | succ j =>
      have := ih (k + 1) _ _ h.2 j it (by simpa using hj)
      rw [stateOf_cons, if_pos (by simp)]
      rwa [show k + (j + 1) = k + 1 + j by omega]
theorem stateOf_congr {S S' : Nat → Bool} : ∀ (its : List Item) (k : Nat) (σ : Sl) (β : Bx), (∀ i, i < its.length → S (k + i) = S' (k + i)) → stateOf S its k σ β = stateOf S' its k σ β
  | [], _, _, _, _ => rfl
  | it :: r, k, σ, β, h => by
    have h0 := h 0 (by simp)
    rw [Nat.add_zero] at h0
    have hr : ∀ i, i < r.length → S (k + 1 + i) = S' (k + 1 + i) := fun i hi => by
      have := h (i + 1) (by simpa using hi)
      rwa [show k + (i + 1) = k + 1 + i by omega] at this
    unfold stateOf
    rw [h0]
    split
    · exact stateOf_congr r _ _ _ hr
    · exact stateOf_congr r _ _ _ hr
theorem ancs_closed (S : Nat → Prop) : ∀ (rs : List Rec) (acc : List (List Nat)), (∀ k l, acc[k]? = some l → S k → ∀ x ∈ l, S x) → (∀ m r, rs[m]? = some r → S (acc.length + m) → ∀ x ∈ r.after, S x) →
    ∀ k l, (ancs rs acc)[k]? = some l → S k → ∀ x ∈ l, S x
  | [], acc, h1, _, k, l, hk, hS => h1 k l hk hS
  | r :: rs, acc, h1, h2, k, l, hk, hS => by
    refine ancs_closed S rs _ (fun k l hk hS => ?_) (fun m r' hm hS => ?_) k l hk hS
    · rw [List.getElem?_append] at hk
      split at hk
      · exact h1 k l hk hS
      · rename_i hge
        have hk0 : k = acc.length := by
          by_cases he : k - acc.length = 0
          · omega
          · rw [List.getElem?_cons] at hk
            rw [if_neg he] at hk
            simp at hk
        subst hk0
        simp only [Nat.sub_self, List.getElem?_cons_zero, Option.some.injEq] at hk
        subst hk
        have ha := h2 0 r rfl hS
        intro x hx
        rw [List.mem_append] at hx
        rcases hx with hx | hx
        · exact ha x hx
        · rw [List.mem_flatMap] at hx
          obtain ⟨i, hi, hx⟩ := hx
          cases hai : acc[i]? with
          | none => rw [hai] at hx; simp at hx
          | some l' => rw [hai] at hx; exact h1 i l' hai (ha i hi) x hx
    · have := h2 (m + 1) r' (by simpa using hm)
      rw [List.length_append, List.length_singleton] at hS
      exact this (by rwa [show acc.length + (m + 1) = acc.length + 1 + m by omega])
theorem meets_iff {l m : List Nat} : meets l m = true ↔ ∃ x, x ∈ l ∧ x ∈ m := by
  unfold meets
  rw [List.any_eq_true]
  constructor
  · rintro ⟨x, hx, hy⟩
    rw [List.any_eq_true] at hy
    obtain ⟨y, hy, he⟩ := hy
    exact ⟨x, hx, by have := beq_iff_eq.1 he; subst this; exact hy⟩
  · rintro ⟨x, hx, hy⟩
    exact ⟨x, hx, List.any_eq_true.2 ⟨x, hy, by simp⟩⟩
end Go.Proofs.YtfkkamkhjbfjmaaDoor
