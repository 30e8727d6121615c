/-
  The pure layer, its words: values as data, memory as numbered boxes; what it means that an operation does just so. No condition.
-/
import Derived.Test.YtfkkamkhjbfjmaaDoorGs
import Derived.WalkKit
import Derived.ProofKit
import Derived.Handy
import Derived.Below
import Derived.Laws.OwnMore
import Derived.Deep.AppendLies
import Derived.Deep.Draws
import Derived.Deep.MidRow
namespace Go.Proofs.YtfkkamkhjbfjmaaDoor
set_option linter.unusedSimpArgs false
set_option linter.unusedVariables false
open Go.RowKit

/-- Values in the midst of a call: data; pointers and slices of the call's own, by the number of their box; functions; a value under a guard. -/
inductive A where
  | d (x : D)
  | ag (cs : List A)
  | tu (vs : List A)
  | pe (sz : Nat) (es : List (List D)) (i off : Nat)
  | px (id off : Nat)
  | pr (id sz k off : Nat)
  | ow (id n : Nat)
  | sx (id n c : Nat)
  | fn (f : Fn) (first captured : List A)
  | gd (x : Bool) (v : A)
  | un
def A.one : A → Bool
  | .d x => x.one
  | .pe .. | .px .. | .pr .. | .ow .. | .sx .. | .fn .. => true
  | _ => false
inductive Box where
  | var (T : TypeId) (cs : List A)
  | row (e : TypeId) (sz : Nat) (es : List (List D))
  | frz (sz : Nat) (es : List (List D))
  | dead
def Box.live : Box → Bool
  | .var .. | .row .. => true
  | _ => false
abbrev Sl := List (Nat × A)
abbrev Bx := List (Nat × Box)
theorem look_cons {α : Type} (t k : Nat) (v : α) (r : List (Nat × α)) : look t ((k, v) :: r) = if k = t then some v else look t r := rfl
theorem look_append {α : Type} (t : Nat) : ∀ (l m : List (Nat × α)), look t (l ++ m) = (look t l).or (look t m)
  | [], m => by simp [look]
  | (k, v) :: l, m => by
    rw [List.cons_append, look_cons, look_cons]
    split
    · simp
    · exact look_append t l m
theorem look_none {α : Type} {t : Nat} : ∀ {l : List (Nat × α)}, t ∉ l.map (·.1) → look t l = none
  | [], _ => rfl
  | (k, v) :: l, h => by
    simp only [List.map_cons, List.mem_cons, not_or] at h
    rw [look_cons, if_neg (Ne.symm h.1)]
    exact look_none h.2
theorem look_some_of {α : Type} {t : Nat} : ∀ {l : List (Nat × α)}, t ∈ l.map (·.1) → ∃ v, look t l = some v
  | (k, v) :: l, h => by
    rw [look_cons]
    by_cases hk : k = t
    · exact ⟨v, by rw [if_pos hk]⟩
    · rw [if_neg hk]
      refine look_some_of ?_
      simp only [List.map_cons, List.mem_cons] at h
      rcases h with h | h
      · exact absurd h.symm hk
      · exact h
def dom (β : Bx) (i : Nat) : Prop := look i β ≠ none
theorem dom_append {β γ : Bx} {i : Nat} (h : dom β i) : dom (γ ++ β) i := by
  unfold dom at *
  rw [look_append]
  cases look i γ <;> simp_all
mutual
/-- The boxes that v names are there. -/
def A.inB (β : Bx) : A → Prop
  | .d _ => True
  | .ag cs => A.insB β cs
  | .tu vs => A.insB β vs
  | .pe .. => True
  | .px id _ => dom β id
  | .pr id _ _ _ => dom β id
  | .ow id _ => dom β id
  | .sx id _ _ => dom β id
  | .fn _ a b => A.insB β a ∧ A.insB β b
  | .gd x v => x = true → A.inB β v
  | .un => True
def A.insB (β : Bx) : List A → Prop
  | [] => True
  | x :: r => A.inB β x ∧ A.insB β r
end
def Box.inB (β : Bx) : Box → Prop
  | .var _ cs => A.insB β cs
  | _ => True
mutual
theorem A.inB_mono {β γ : Bx} (h : ∀ i, dom β i → dom γ i) : ∀ v : A, v.inB β → v.inB γ
  | .d _, _ => trivial
  | .ag cs, hv => A.insB_mono h cs hv
  | .tu vs, hv => A.insB_mono h vs hv
  | .pe .., _ => trivial
  | .px _ _, hv => h _ hv
  | .pr _ _ _ _, hv => h _ hv
  | .ow _ _, hv => h _ hv
  | .sx _ _ _, hv => h _ hv
  | .fn _ a b, hv => ⟨A.insB_mono h a hv.1, A.insB_mono h b hv.2⟩
  | .gd x v, hv => fun hx => A.inB_mono h v (hv hx)
  | .un, _ => trivial
theorem A.insB_mono {β γ : Bx} (h : ∀ i, dom β i → dom γ i) : ∀ l : List A, A.insB β l → A.insB γ l
  | [], _ => trivial
  | x :: r, hv => ⟨A.inB_mono h x hv.1, A.insB_mono h r hv.2⟩
end
theorem Box.inB_mono {β γ : Bx} (h : ∀ i, dom β i → dom γ i) (b : Box) (hb : b.inB β) : b.inB γ := by
  cases b with
  | var T cs => exact A.insB_mono h cs hb
  | _ => trivial
theorem A.insB_mem {β : Bx} : ∀ {l : List A}, A.insB β l → ∀ v ∈ l, v.inB β
  | x :: r, h, v, hv => by
    rcases List.mem_cons.1 hv with rfl | hv
    · exact h.1
    · exact A.insB_mem h.2 v hv
theorem A.insB_of {β : Bx} : ∀ {l : List A}, (∀ v ∈ l, v.inB β) → A.insB β l
  | [], _ => trivial
  | x :: r, h => ⟨h x (by simp), A.insB_of fun v hv => h v (by simp [hv])⟩

mutual
/-- The data x, read in world w, out of blocks in I. -/
def RepD (I : Nat → Prop) (w : World) : D → Value → Prop
  | .sc v, x => x = v ∧ v.oneCell' = true
  | .nl, x => x = .slice none 0 0
  | .sl sz es, x => ∃ ad c xs, x = .slice ad es.length c ∧ es.length ≤ c ∧ RepR I w sz es xs ∧ (0 < es.length → ∃ g off, ad = some ⟨g, off, none⟩ ∧ I g ∧ ∀ (j : Nat) (u : Value), xs[j]? = some u → w.cell? ⟨g, off + j, none⟩ = some u)
  | .ag cs, x => ∃ us : Array Value, x = .agg us ∧ RepC I w true cs us.toList
  | .tu vs, x => ∃ us : Array Value, x = .tuple us ∧ RepC I w false vs us.toList
def RepC (I : Nat → Prop) (w : World) (o : Bool) : List D → List Value → Prop
  | [], l => l = []
  | d :: ds, l => ∃ u us, l = u :: us ∧ (o = true → d.one = true) ∧ RepD I w d u ∧ RepC I w o ds us
def RepR (I : Nat → Prop) (w : World) (sz : Nat) : List (List D) → List Value → Prop
  | [], l => l = []
  | e :: es, l => ∃ us us', l = us ++ us' ∧ e.length = sz ∧ RepC I w true e us ∧ RepR I w sz es us'
end
/-- What is read out of I in w is read so out of I' in w'. -/
structure ExtI (I : Nat → Prop) (w : World) (I' : Nat → Prop) (w' : World) : Prop where
  imm : ∀ g, I g → I' g
  same : ∀ g, I g → w'.heap[g]? = w.heap[g]?
theorem cell_of_heap {w w' : World} {p : Addr} (h : w'.heap[p.block]? = w.heap[p.block]?) : w'.cell? p = w.cell? p := by
  unfold World.cell?
  rw [h]
mutual
theorem RepD.ext {I I' : Nat → Prop} {w w' : World} (h : ExtI I w I' w') : ∀ (d : D) (x : Value), RepD I w d x → RepD I' w' d x
  | .sc _, _, hx => hx
  | .nl, _, hx => hx
  | .sl sz es, _, ⟨ad, c, xs, hx, hc, hr, hg⟩ => ⟨ad, c, xs, hx, hc, RepR.ext h sz es xs hr, fun h0 => by
      obtain ⟨g, off, e, hi, hcell⟩ := hg h0
      exact ⟨g, off, e, h.imm g hi, fun j u hu => (cell_of_heap (p := ⟨g, off + j, none⟩) (h.same g hi)).trans (hcell j u hu)⟩⟩
  | .ag cs, _, ⟨us, hx, hr⟩ => ⟨us, hx, RepC.ext h true cs _ hr⟩
  | .tu vs, _, ⟨us, hx, hr⟩ => ⟨us, hx, RepC.ext h false vs _ hr⟩
theorem RepC.ext {I I' : Nat → Prop} {w w' : World} (h : ExtI I w I' w') (o : Bool) : ∀ (ds : List D) (l : List Value), RepC I w o ds l → RepC I' w' o ds l
  | [], _, hx => hx
  | d :: ds, _, ⟨u, us, hx, ho, hd, hr⟩ => ⟨u, us, hx, ho, RepD.ext h d u hd, RepC.ext h o ds us hr⟩
theorem RepR.ext {I I' : Nat → Prop} {w w' : World} (h : ExtI I w I' w') (sz : Nat) : ∀ (es : List (List D)) (l : List Value), RepR I w sz es l → RepR I' w' sz es l
  | [], _, hx => hx
  | e :: es, _, ⟨us, us', hx, hl, hc, hr⟩ => ⟨us, us', hx, hl, RepC.ext h true e us hc, RepR.ext h sz es us' hr⟩
end
mutual
/-- The value x stands for v: box id lies where ρ says. -/
def RepA (ρ : Nat → Value) (I : Nat → Prop) (w : World) : A → Value → Prop
  | .d x, v => RepD I w x v
  | .ag cs, v => ∃ us : Array Value, v = .agg us ∧ RepAs ρ I w true cs us.toList
  | .tu vs, v => ∃ us : Array Value, v = .tuple us ∧ RepAs ρ I w false vs us.toList
  | .pe sz es i off, v => i < es.length ∧ ∃ xs g o, RepR I w sz es xs ∧ v = .pointer (some ⟨g, o + (i * sz + off), none⟩) ∧ I g ∧ ∀ (j : Nat) (u : Value), xs[j]? = some u → w.cell? ⟨g, o + j, none⟩ = some u
  | .px id off, v => ∃ g, ρ id = .pointer (some ⟨g, 0, none⟩) ∧ v = .pointer (some ⟨g, off, none⟩)
  | .pr id sz k off, v => ∃ g n c, ρ id = .slice (some ⟨g, 0, none⟩) n c ∧ k < n ∧ v = .pointer (some ⟨g, k * sz + off, none⟩)
  | .ow id n, v => v = ρ id ∧ ∃ ad c, v = .slice ad n c ∧ n ≤ c ∧ (0 < n → ∃ g, ad = some ⟨g, 0, none⟩)
  | .sx id n c, v => ∃ g, ρ id = .pointer (some ⟨g, 0, none⟩) ∧ v = .slice (some ⟨g, 0, none⟩) n c
  | .fn f a b, v => ∃ us vs : Array Value, v = .func f us vs ∧ RepAs ρ I w false a us.toList ∧ RepAs ρ I w false b vs.toList
  | .gd x a, v => if x = true then RepA ρ I w a v else v = undef
  | .un, _ => True
def RepAs (ρ : Nat → Value) (I : Nat → Prop) (w : World) (o : Bool) : List A → List Value → Prop
  | [], l => l = []
  | d :: ds, l => ∃ u us, l = u :: us ∧ (o = true → d.one = true) ∧ RepA ρ I w d u ∧ RepAs ρ I w o ds us
end
structure Ext (β : Bx) (ρ : Nat → Value) (I : Nat → Prop) (w : World) (ρ' : Nat → Value) (I' : Nat → Prop) (w' : World) : Prop extends ExtI I w I' w' where
  rho : ∀ id, dom β id → ρ' id = ρ id
mutual
theorem RepA.ext {β : Bx} {ρ ρ' : Nat → Value} {I I' : Nat → Prop} {w w' : World} (h : Ext β ρ I w ρ' I' w') : ∀ (d : A) (x : Value), d.inB β → RepA ρ I w d x → RepA ρ' I' w' d x
  | .d d, x, _, hx => RepD.ext h.toExtI d x hx
  | .ag cs, _, hb, ⟨us, hx, hr⟩ => ⟨us, hx, RepAs.ext h true cs _ hb hr⟩
  | .tu cs, _, hb, ⟨us, hx, hr⟩ => ⟨us, hx, RepAs.ext h false cs _ hb hr⟩
  | .pe sz es i off, _, _, ⟨hi, xs, g, o, hr, hx, hg, hc⟩ => ⟨hi, xs, g, o, RepR.ext h.toExtI sz es xs hr, hx, h.imm g hg, fun j u hu => (cell_of_heap (p := ⟨g, o + j, none⟩) (h.same g hg)).trans (hc j u hu)⟩
  | .px id off, _, hb, ⟨g, hr, hx⟩ => ⟨g, (h.rho id hb).trans hr, hx⟩
  | .pr id sz k off, _, hb, ⟨g, n, c, hr, hk, hx⟩ => ⟨g, n, c, (h.rho id hb).trans hr, hk, hx⟩
  | .ow id n, _, hb, ⟨hx, hr⟩ => ⟨hx.trans (h.rho id hb).symm, hr⟩
  | .sx id n c, _, hb, ⟨g, hr, hx⟩ => ⟨g, (h.rho id hb).trans hr, hx⟩
  | .fn f a b, _, hb, ⟨us, vs, hx, h1, h2⟩ => ⟨us, vs, hx, RepAs.ext h false a _ hb.1 h1, RepAs.ext h false b _ hb.2 h2⟩
  | .gd x a, v, hb, hx => by
    unfold RepA at hx ⊢
    split at hx
    · rename_i hx1; rw [if_pos hx1]; exact RepA.ext h a v (hb hx1) hx
    · rename_i hx1; rw [if_neg hx1]; exact hx
  | .un, _, _, _ => trivial
theorem RepAs.ext {β : Bx} {ρ ρ' : Nat → Value} {I I' : Nat → Prop} {w w' : World} (h : Ext β ρ I w ρ' I' w') (o : Bool) : ∀ (ds : List A) (l : List Value), A.insB β ds → RepAs ρ I w o ds l → RepAs ρ' I' w' o ds l
  | [], _, _, hx => hx
  | d :: ds, _, hb, ⟨u, us, hx, ho, hd, hr⟩ => ⟨u, us, hx, ho, RepA.ext h d u hb.1 hd, RepAs.ext h o ds us hb.2 hr⟩
end

def blk : Value → Option Nat
  | .pointer (some a) => some a.block
  | .slice (some a) _ _ => some a.block
  | _ => none
def BoxRep (ρ : Nat → Value) (I : Nat → Prop) (w : World) (id : Nat) : Box → Prop
  | .var T cs => ∃ (g : Nat) (us : Array Value), ρ id = .pointer (some ⟨g, 0, none⟩) ∧ w.heap[g]? = some (.cells us T (0, 0)) ∧ RepAs ρ I w true cs us.toList
  | .row e sz es => ∃ xs, w.ownsRow 0 e sz (ρ id) es.length xs ∧ RepR I w sz es xs
  | .frz sz es => RepD I w (.sl sz es) (ρ id)
  | .dead => True
/-- What does not turn while a call runs: the world w0 in which it began, the blocks that it may write of those that were there (PB), those that it may read (I0), the size of its frame. -/
structure Ctx where
  w0 : World
  PB : Nat → Prop
  I0 : Nat → Prop
  N : Nat
  K : Nat → Bool
  args : Nat → Value
/-- The listed variables of packages are there, in blocks that are only read. -/
def GlOk (I : Nat → Prop) (w : World) : Prop := ∀ g cs, Gs g = some cs → I g ∧ ∃ xs, RepR I w cs.length [cs] xs ∧ ∀ (j : Nat) (u : Value), xs[j]? = some u → w.cell? ⟨g, j, none⟩ = some u
theorem GlOk.ext {I : Nat → Prop} {w : World} {I' : Nat → Prop} {w' : World} (h : GlOk I w) (hx : ExtI I w I' w') : GlOk I' w' := fun g cs hg => by
  obtain ⟨h1, xs, h2, h3⟩ := h g cs hg
  exact ⟨hx.imm g h1, xs, RepR.ext hx _ _ _ h2, fun j u hu => (cell_of_heap (p := ⟨g, j, none⟩) (hx.same g h1)).trans (h3 j u hu)⟩
structure Mem (C : Ctx) (β : Bx) (ρ : Nat → Value) (I : Nat → Prop) (w : World) : Prop where
  os : w.os = C.w0.os
  tape : w.tape = C.w0.tape
  output : w.output = C.w0.output
  size : C.w0.heap.size ≤ w.heap.size
  frame : ∀ k, k < C.w0.heap.size → ¬ C.PB k → w.heap[k]? = C.w0.heap[k]?
  imm : ∀ g, I g → g < w.heap.size
  new : ∀ g, I g → C.I0 g ∨ C.w0.heap.size ≤ g ∨ C.PB g
  box : ∀ id b, look id β = some b → BoxRep ρ I w id b
  own : ∀ id b g, look id β = some b → b.live = true → blk (ρ id) = some g → g < w.heap.size ∧ ¬ I g ∧ (C.w0.heap.size ≤ g ∨ C.PB g)
  inj : ∀ i j b b' g, look i β = some b → look j β = some b' → b.live = true → b'.live = true → blk (ρ i) = some g → blk (ρ j) = some g → i = j
  clo : ∀ id b, look id β = some b → b.inB β
  gl : GlOk I w
theorem Mem.congr {C : Ctx} {β γ : Bx} {ρ : Nat → Value} {I : Nat → Prop} {w : World} (h : Mem C β ρ I w) (e : ∀ id, look id γ = look id β) : Mem C γ ρ I w where
  os := h.os
  tape := h.tape
  output := h.output
  size := h.size
  frame := h.frame
  imm := h.imm
  new := h.new
  box := fun id b hb => h.box id b ((e id).symm.trans hb)
  own := fun id b g hb => h.own id b g ((e id).symm.trans hb)
  inj := fun i j b b' g hb hb' => h.inj i j b b' g ((e i).symm.trans hb) ((e j).symm.trans hb')
  clo := fun id b hb => Box.inB_mono (fun i hi => by unfold dom at *; rw [e i]; exact hi) b (h.clo id b ((e id).symm.trans hb))
  gl := h.gl
theorem Mem.drewN {C : Ctx} {β : Bx} {ρ : Nat → Value} {I : Nat → Prop} {w : World} (h : Mem C β ρ I w) (n : Nat) : Mem C β ρ I { w with drawn := n } := by
  have hx : ExtI I w I { w with drawn := n } := ⟨fun _ h => h, fun _ _ => rfl⟩
  refine ⟨h.os, h.tape, h.output, h.size, h.frame, h.imm, h.new, fun id b hb => ?_, h.own, h.inj, h.clo, h.gl.ext hx⟩
  have := h.box id b hb
  cases b with
  | var T cs =>
    obtain ⟨g, us, h1, h2, h3⟩ := this
    exact ⟨g, us, h1, h2, RepAs.ext (β := β) ⟨hx, fun _ _ => rfl⟩ true cs _ (h.clo id _ hb) h3⟩
  | row e sz es =>
    obtain ⟨xs, h1, h2⟩ := this
    exact ⟨xs, h1, RepR.ext hx sz es xs h2⟩
  | frz sz es => exact RepD.ext hx _ _ this
  | dead => trivial

def evC : Value → A
  | .slice none 0 0 => .d .nl
  | v => if v.oneCell' = true then .d (.sc v) else .un
def ev (σ : Sl) : Operand → A
  | .tmp t => (look t σ).getD .un
  | .const v => evC v
  | .global g => match Gs g with
    | some cs => .pe cs.length [cs] 0 0
    | none => .un
  | .func f => .fn (.func f) [] []
def Agreeing (β γ : Bx) (l : List Nat) : Prop := ∀ id ∈ l, look id γ = look id β
/-- The operation does just so, wherever the boxes that it reads or writes are as they are: it yields v and turns the boxes ups. -/
def Does (P : Program) (dst : Option Nat) (op : Op) (ty : TypeId) (e : Operand → A) (β : Bx) (v : A) (ups : Bx) (rd : List Nat) : Prop :=
  ∀ (C : Ctx) (γ : Bx), Agreeing β γ (rd ++ ups.map (·.1)) → ∀ (ρ : Nat → Value) (I : Nat → Prop) (w : World), Mem C γ ρ I w → ∀ a : Act,
    (∀ x ∈ op.operands.toList, (e x).inB γ ∧ RepA ρ I w (e x) (a.eval x)) → ∀ o : Oper, o.op = op → o.dst = dst → o.type = ty → ∀ (K : Act → World → Prop) (Q : Exit → Act → World → Prop),
      (∀ vv ρ' I' w', Mem C (ups ++ γ) ρ' I' w' → Ext γ ρ I w ρ' I' w' → v.inB (ups ++ γ) → RepA ρ' I' w' v vv → K (a.put dst vv) w') → Oper.wp P o a w K Q
def stripA : A → A
  | .gd _ v => v
  | v => v
def gdOk (x : Bool) : A → Prop
  | .gd y _ => x = true → y = true
  | _ => True
def gates (x : Bool) (e : Operand → A) : List Operand → Prop
  | [] => True
  | y :: r => gdOk x (e y) ∧ gates x e r
/-- Of the operands chosen: their guards follow; they are read without them. -/
def selU (sel : Operand → Bool) (e : Operand → A) : Operand → A := fun y => bif sel y then e y else .un
def selA (sel : Operand → Bool) (e : Operand → A) : Operand → A := fun y => bif sel y then stripA (e y) else e y
def gval (σ : Sl) (t : Nat) (want : Bool) : Option Bool := match look t σ with
  | some (.d (.sc (.bool x))) => some (bif want then x else !x)
  | some (.gd y (.d (.sc (.bool x)))) => some (y && (bif want then x else !x))
  | _ => none
def guardT (all : List Oper) (o : Oper) : Option (Option (Nat × Bool)) := match o.guard with
  | none => none
  | some (j, want) => some (((all[j]?).bind (·.dst)).map fun t => (t, want))
def StepSem (P : Program) (all : List Oper) (σ : Sl) (β : Bx) (o : Oper) (v : A) (ups : Bx) (rd : List Nat) : Prop := match guardT all o with
  | none => Does P o.dst o.op o.type (ev σ) β v ups rd
  | some (some (t, want)) => (∃ x v' sel, gval σ t want = some x ∧ gates x (selU sel (ev σ)) o.op.operands.toList ∧ v = .gd x v' ∧ ups = [] ∧ (x = true → Does P o.dst o.op o.type (selA sel (ev σ)) β v' [] rd)) ∨
    (∃ sel, gval σ t want = some true ∧ gates true (selU sel (ev σ)) o.op.operands.toList ∧ Does P o.dst o.op o.type (selA sel (ev σ)) β v ups rd)
  | some none => False
/-- A frame. -/
structure Fr (C : Ctx) (σ : Sl) (β : Bx) (ρ : Nat → Value) (I : Nat → Prop) (w : World) (a : Act) : Prop where
  defers : a.defers = []
  size : a.tmps.size = C.N
  keep : ∀ t, C.K t = true → a.tmps.getD t undef = C.args t
  val : ∀ t v, look t σ = some v → t < C.N ∧ v.inB β ∧ RepA ρ I w v (a.tmps.getD t undef)
end Go.Proofs.YtfkkamkhjbfjmaaDoor
