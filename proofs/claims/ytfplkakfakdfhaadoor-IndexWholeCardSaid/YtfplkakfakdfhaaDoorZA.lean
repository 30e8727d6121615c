/-
  The pure layer: data. No condition.
-/
import Derived.WalkKit
import Derived.ProofKit
import Derived.Handy
import Derived.Below
import Derived.Laws.OwnMore
import Derived.Deep.AppendLies
import Derived.Deep.Draws
import Derived.Deep.MidRow
import Derived.RegionTactic
import Derived.Deep.LoopGhost
import Derived.ScopeJumps
import Derived.WalkLawsBesides
import Derived.Maps.AppendAt
import Derived.OwnWalk
import Derived.Laws.BytesArg
import Derived.Laws.BytesString
import Derived.Laws.MakeOwn
namespace Go.Proofs.YtfplkakfakdfhaaDoor
set_option linter.unusedSimpArgs false
set_option linter.unusedVariables false
open Go.RowKit

/-- Data: a value of one cell, nil, a slice (elements of sz cells each), a struct or an array, several results. -/
inductive D where
  | sc (v : Value)
  | nl
  | sl (sz : Nat) (es : List (List D))
  | ag (cs : List D)
  | tu (vs : List D)
def D.cells : D → List D
  | .ag cs => cs
  | x => [x]
def D.one : D → Bool
  | .ag _ | .tu _ => false
  | _ => true
mutual
def D.flat : D → Bool
  | .sc _ => true
  | .nl => true
  | .sl _ _ => false
  | .ag cs => D.flats cs
  | .tu vs => D.flats vs
def D.flats : List D → Bool
  | [] => true
  | x :: r => x.flat && D.flats r
end
abbrev bD (b : Bool) : D := .sc (.bool b)
abbrev iD (n : Int) : D := .sc (.int .i64 n)
abbrev u8D (b : UInt8) : D := .sc (.int .u8 (b.toNat : Int))
abbrev strD (s : ByteArray) : D := .sc (.string s)
def look {α : Type} (t : Nat) : List (Nat × α) → Option α
  | [] => none
  | (k, v) :: r => if k = t then some v else look t r
end Go.Proofs.YtfplkakfakdfhaaDoor


/-
  The variables of packages that the walks read. No condition.
-/
namespace Go.Proofs.YtfplkakfakdfhaaDoor
def gn0 : List Nat := [240, 240, 240, 240, 240, 240, 240, 240, 240, 240, 240, 240, 240, 240, 240, 240, 240, 240, 240, 240, 240, 240, 240, 240, 240, 240, 240, 240, 240, 240, 240, 240, 240, 240, 240, 240, 240, 240, 240, 240, 240, 240, 240, 240, 240, 240, 240, 240, 240, 240, 240, 240, 240, 240, 240, 240, 240, 240, 240, 240, 240, 240, 240, 240, 240, 240, 240, 240, 240, 240, 240, 240, 240, 240, 240, 240, 240, 240, 240, 240, 240, 240, 240, 240, 240, 240, 240, 240, 240, 240, 240, 240, 240, 240, 240, 240, 240, 240, 240, 240, 240, 240, 240, 240, 240, 240, 240, 240, 240, 240, 240, 240, 240, 240, 240, 240, 240, 240, 240, 240, 240, 240, 240, 240, 240, 240, 240, 240, 241, 241, 241, 241, 241, 241, 241, 241, 241, 241, 241, 241, 241, 241, 241, 241, 241, 241, 241, 241, 241, 241, 241, 241, 241, 241, 241, 241, 241, 241, 241, 241, 241, 241, 241, 241, 241, 241, 241, 241, 241, 241, 241, 241, 241, 241, 241, 241, 241, 241, 241, 241, 241, 241, 241, 241, 241, 241, 241, 241, 241, 241, 241, 241, 241, 241, 2, 2, 2, 2, 2, 2, 2, 2, 2, 2, 2, 2, 2, 2, 2, 2, 2, 2, 2, 2, 2, 2, 2, 2, 2, 2, 2, 2, 2, 2, 19, 3, 3, 3, 3, 3, 3, 3, 3, 3, 3, 3, 3, 35, 3, 3, 52, 4, 4, 4, 68, 241, 241, 241, 241, 241, 241, 241, 241, 241, 241, 241]
def gn1 : List Nat := [128, 191, 160, 191, 128, 159, 144, 191, 128, 143, 0, 0, 0, 0, 0, 0, 0, 0, 0, 0, 0, 0, 0, 0, 0, 0, 0, 0, 0, 0, 0, 0]
def GsL : List (Nat × List D) := [(0, gn0.map fun n => D.sc (.int .u8 (n : Nat))), (1, gn1.map fun n => D.sc (.int .u8 (n : Nat)))]
def GiL : List Nat := []
def GtL : List (Nat × Array Value) := []
def Gs (g : Nat) : Option (List D) := look g GsL
end Go.Proofs.YtfplkakfakdfhaaDoor


/-
  The pure layer, its words: values as data, memory as numbered boxes; what it means that an operation does just so. No condition.
-/
namespace Go.Proofs.YtfplkakfakdfhaaDoor
set_option linter.unusedSimpArgs false
set_option linter.unusedVariables false
open Go.RowKit

/-- Values in the midst of a call: data; pointers and slices of the call's own, by the number of their box; functions; a value under a guard. -/
inductive A where
  | d (x : D)
  | ag (cs : List A)
  | tu (vs : List A)
  | pe (sz : Nat) (es : List (List D)) (i off : Nat)
  | px (id off : Nat)
  | pr (id sz k off : Nat)
  | ow (id n : Nat)
  | sx (id n c : Nat)
  | ov (id sz k n : Nat)
  | fs (sz : Nat) (es : List (List D))
  | fn (f : Fn) (first captured : List A)
  | gd (x : Bool) (v : A)
  | un
def A.one : A → Bool
  | .d x => x.one
  | .pe .. | .px .. | .pr .. | .ow .. | .sx .. | .ov .. | .fs .. | .fn .. => true
  | _ => false
/-- What a box may hold of many blocks: how it lies from a value on, and in which blocks. -/
structure Res where
  rep : World → Value → List Nat → Prop
  stay : ∀ {w w' : World} {v : Value} {fs : List Nat}, rep w v fs → (∀ g ∈ fs, w'.heap[g]? = w.heap[g]?) → rep w' v fs
  det : ∀ {w : World} {v : Value} {fs fs' : List Nat}, rep w v fs → rep w v fs' → fs = fs'
/-- The same, where it hangs on where another box lies. -/
structure Rel where
  rep : World → Value → Value → List Nat → Prop
  stay : ∀ {w w' : World} {u v : Value} {fs : List Nat}, rep w u v fs → (∀ g ∈ fs, w'.heap[g]? = w.heap[g]?) → rep w' u v fs
  det : ∀ {w : World} {u u' v : Value} {fs fs' : List Nat}, rep w u v fs → rep w u' v fs' → fs = fs'
inductive Box where
  | res (X : Res)
  | var (T : TypeId) (cs : List A)
  | row (e : TypeId) (sz : Nat) (es : List (List D))
  | frz (sz : Nat) (es : List (List D))
  | itr (s : ByteArray) (pos : Nat)
  | rel (j : Nat) (X : Rel)
  | dead
def Box.live : Box → Bool
  | .var .. | .row .. | .itr .. => true
  | _ => false
def Box.opn : Box → Bool
  | .frz .. | .rel .. | .dead => false
  | _ => true
abbrev Sl := List (Nat × A)
abbrev Bx := List (Nat × Box)
theorem look_cons {α : Type} (t k : Nat) (v : α) (r : List (Nat × α)) : look t ((k, v) :: r) = if k = t then some v else look t r := rfl
theorem look_append {α : Type} (t : Nat) : ∀ (l m : List (Nat × α)), look t (l ++ m) = (look t l).or (look t m)
  | [], m => by simp [look]
  | (k, v) :: l, m => by
    rw [List.cons_append, look_cons, look_cons]
    split
    · simp
    · exact look_append t l m
theorem look_none {α : Type} {t : Nat} : ∀ {l : List (Nat × α)}, t ∉ l.map (·.1) → look t l = none
  | [], _ => rfl
  | (k, v) :: l, h => by
    simp only [List.map_cons, List.mem_cons, not_or] at h
    rw [look_cons, if_neg (Ne.symm h.1)]
    exact look_none h.2
theorem look_some_of {α : Type} {t : Nat} : ∀ {l : List (Nat × α)}, t ∈ l.map (·.1) → ∃ v, look t l = some v
  | (k, v) :: l, h => by
    rw [look_cons]
    by_cases hk : k = t
    · exact ⟨v, by rw [if_pos hk]⟩
    · rw [if_neg hk]
      refine look_some_of ?_
      simp only [List.map_cons, List.mem_cons] at h
      rcases h with h | h
      · exact absurd h.symm hk
      · exact h
def dom (β : Bx) (i : Nat) : Prop := look i β ≠ none
theorem dom_append {β γ : Bx} {i : Nat} (h : dom β i) : dom (γ ++ β) i := by
  unfold dom at *
  rw [look_append]
  cases look i γ <;> simp_all
mutual
/-- The boxes that v names are there. -/
def A.inB (β : Bx) : A → Prop
  | .d _ => True
  | .ag cs => A.insB β cs
  | .tu vs => A.insB β vs
  | .pe .. => True
  | .px id _ => dom β id
  | .pr id _ _ _ => dom β id
  | .ow id _ => dom β id
  | .sx id _ _ => dom β id
  | .ov id _ _ _ => dom β id
  | .fs .. => True
  | .fn _ a b => A.insB β a ∧ A.insB β b
  | .gd x v => x = true → A.inB β v
  | .un => True
def A.insB (β : Bx) : List A → Prop
  | [] => True
  | x :: r => A.inB β x ∧ A.insB β r
end
def Box.inB (β : Bx) : Box → Prop
  | .var _ cs => A.insB β cs
  | .rel j _ => dom β j
  | _ => True
mutual
theorem A.inB_mono {β γ : Bx} (h : ∀ i, dom β i → dom γ i) : ∀ v : A, v.inB β → v.inB γ
  | .d _, _ => trivial
  | .ag cs, hv => A.insB_mono h cs hv
  | .tu vs, hv => A.insB_mono h vs hv
  | .pe .., _ => trivial
  | .px _ _, hv => h _ hv
  | .pr _ _ _ _, hv => h _ hv
  | .ow _ _, hv => h _ hv
  | .sx _ _ _, hv => h _ hv
  | .ov _ _ _ _, hv => h _ hv
  | .fs .., _ => trivial
  | .fn _ a b, hv => ⟨A.insB_mono h a hv.1, A.insB_mono h b hv.2⟩
  | .gd x v, hv => fun hx => A.inB_mono h v (hv hx)
  | .un, _ => trivial
theorem A.insB_mono {β γ : Bx} (h : ∀ i, dom β i → dom γ i) : ∀ l : List A, A.insB β l → A.insB γ l
  | [], _ => trivial
  | x :: r, hv => ⟨A.inB_mono h x hv.1, A.insB_mono h r hv.2⟩
end
theorem Box.inB_mono {β γ : Bx} (h : ∀ i, dom β i → dom γ i) (b : Box) (hb : b.inB β) : b.inB γ := by
  cases b with
  | var T cs => exact A.insB_mono h cs hb
  | rel j X => exact h j hb
  | _ => trivial
theorem A.insB_mem {β : Bx} : ∀ {l : List A}, A.insB β l → ∀ v ∈ l, v.inB β
  | x :: r, h, v, hv => by
    rcases List.mem_cons.1 hv with rfl | hv
    · exact h.1
    · exact A.insB_mem h.2 v hv
theorem A.insB_of {β : Bx} : ∀ {l : List A}, (∀ v ∈ l, v.inB β) → A.insB β l
  | [], _ => trivial
  | x :: r, h => ⟨h x (by simp), A.insB_of fun v hv => h v (by simp [hv])⟩

mutual
/-- The data x, read in world w, out of blocks in I. -/
def RepD (I : Nat → Prop) (w : World) : D → Value → Prop
  | .sc v, x => x = v ∧ v.oneCell' = true
  | .nl, x => x = .slice none 0 0
  | .sl sz es, x => ∃ ad c xs, x = .slice ad es.length c ∧ es.length ≤ c ∧ RepR I w sz es xs ∧ (0 < es.length → ∃ g off, ad = some ⟨g, off, none⟩ ∧ I g ∧ ∀ (j : Nat) (u : Value), xs[j]? = some u → w.cell? ⟨g, off + j, none⟩ = some u)
  | .ag cs, x => ∃ us : Array Value, x = .agg us ∧ RepC I w true cs us.toList
  | .tu vs, x => ∃ us : Array Value, x = .tuple us ∧ RepC I w false vs us.toList
def RepC (I : Nat → Prop) (w : World) (o : Bool) : List D → List Value → Prop
  | [], l => l = []
  | d :: ds, l => ∃ u us, l = u :: us ∧ (o = true → d.one = true) ∧ RepD I w d u ∧ RepC I w o ds us
def RepR (I : Nat → Prop) (w : World) (sz : Nat) : List (List D) → List Value → Prop
  | [], l => l = []
  | e :: es, l => ∃ us us', l = us ++ us' ∧ e.length = sz ∧ RepC I w true e us ∧ RepR I w sz es us'
end
/-- What is read out of I in w is read so out of I' in w'. -/
structure ExtI (I : Nat → Prop) (w : World) (I' : Nat → Prop) (w' : World) : Prop where
  imm : ∀ g, I g → I' g
  same : ∀ g, I g → w'.heap[g]? = w.heap[g]?
theorem cell_of_heap {w w' : World} {p : Addr} (h : w'.heap[p.block]? = w.heap[p.block]?) : w'.cell? p = w.cell? p := by
  unfold World.cell?
  rw [h]
mutual
theorem RepD.ext {I I' : Nat → Prop} {w w' : World} (h : ExtI I w I' w') : ∀ (d : D) (x : Value), RepD I w d x → RepD I' w' d x
  | .sc _, _, hx => hx
  | .nl, _, hx => hx
  | .sl sz es, _, ⟨ad, c, xs, hx, hc, hr, hg⟩ => ⟨ad, c, xs, hx, hc, RepR.ext h sz es xs hr, fun h0 => by
      obtain ⟨g, off, e, hi, hcell⟩ := hg h0
      exact ⟨g, off, e, h.imm g hi, fun j u hu => (cell_of_heap (p := ⟨g, off + j, none⟩) (h.same g hi)).trans (hcell j u hu)⟩⟩
  | .ag cs, _, ⟨us, hx, hr⟩ => ⟨us, hx, RepC.ext h true cs _ hr⟩
  | .tu vs, _, ⟨us, hx, hr⟩ => ⟨us, hx, RepC.ext h false vs _ hr⟩
theorem RepC.ext {I I' : Nat → Prop} {w w' : World} (h : ExtI I w I' w') (o : Bool) : ∀ (ds : List D) (l : List Value), RepC I w o ds l → RepC I' w' o ds l
  | [], _, hx => hx
  | d :: ds, _, ⟨u, us, hx, ho, hd, hr⟩ => ⟨u, us, hx, ho, RepD.ext h d u hd, RepC.ext h o ds us hr⟩
theorem RepR.ext {I I' : Nat → Prop} {w w' : World} (h : ExtI I w I' w') (sz : Nat) : ∀ (es : List (List D)) (l : List Value), RepR I w sz es l → RepR I' w' sz es l
  | [], _, hx => hx
  | e :: es, _, ⟨us, us', hx, hl, hc, hr⟩ => ⟨us, us', hx, hl, RepC.ext h true e us hc, RepR.ext h sz es us' hr⟩
end
mutual
/-- The value x stands for v: box id lies where ρ says. -/
def RepA (ρ : Nat → Value) (I : Nat → Prop) (w : World) : A → Value → Prop
  | .d x, v => RepD I w x v
  | .ag cs, v => ∃ us : Array Value, v = .agg us ∧ RepAs ρ I w true cs us.toList
  | .tu vs, v => ∃ us : Array Value, v = .tuple us ∧ RepAs ρ I w false vs us.toList
  | .pe sz es i off, v => i < es.length ∧ ∃ xs g o, RepR I w sz es xs ∧ v = .pointer (some ⟨g, o + (i * sz + off), none⟩) ∧ I g ∧ ∀ (j : Nat) (u : Value), xs[j]? = some u → w.cell? ⟨g, o + j, none⟩ = some u
  | .px id off, v => ∃ g, ρ id = .pointer (some ⟨g, 0, none⟩) ∧ v = .pointer (some ⟨g, off, none⟩)
  | .pr id sz k off, v => ∃ g n c, ρ id = .slice (some ⟨g, 0, none⟩) n c ∧ k < n ∧ v = .pointer (some ⟨g, k * sz + off, none⟩)
  | .ow id n, v => v = ρ id ∧ ∃ ad c, v = .slice ad n c ∧ n ≤ c ∧ (0 < n → ∃ g, ad = some ⟨g, 0, none⟩)
  | .sx id n c, v => ∃ g, ρ id = .pointer (some ⟨g, 0, none⟩) ∧ v = .slice (some ⟨g, 0, none⟩) n c
  | .ov id sz k n, v => ∃ g m c, ρ id = .slice (some ⟨g, 0, none⟩) m c ∧ 0 < n ∧ k + n ≤ m ∧ ∃ c2, v = .slice (some ⟨g, k * sz, none⟩) n c2
  | .fs sz es, v => RepD I w (.sl sz es) v ∧ ∃ ad, v = .slice ad es.length es.length
  | .fn f a b, v => ∃ us vs : Array Value, v = .func f us vs ∧ RepAs ρ I w false a us.toList ∧ RepAs ρ I w false b vs.toList
  | .gd x a, v => if x = true then RepA ρ I w a v else v = undef
  | .un, _ => True
def RepAs (ρ : Nat → Value) (I : Nat → Prop) (w : World) (o : Bool) : List A → List Value → Prop
  | [], l => l = []
  | d :: ds, l => ∃ u us, l = u :: us ∧ (o = true → d.one = true) ∧ RepA ρ I w d u ∧ RepAs ρ I w o ds us
end
structure Ext (β : Bx) (ρ : Nat → Value) (I : Nat → Prop) (w : World) (ρ' : Nat → Value) (I' : Nat → Prop) (w' : World) : Prop extends ExtI I w I' w' where
  rho : ∀ id, dom β id → ρ' id = ρ id
mutual
theorem RepA.ext {β : Bx} {ρ ρ' : Nat → Value} {I I' : Nat → Prop} {w w' : World} (h : Ext β ρ I w ρ' I' w') : ∀ (d : A) (x : Value), d.inB β → RepA ρ I w d x → RepA ρ' I' w' d x
  | .d d, x, _, hx => RepD.ext h.toExtI d x hx
  | .ag cs, _, hb, ⟨us, hx, hr⟩ => ⟨us, hx, RepAs.ext h true cs _ hb hr⟩
  | .tu cs, _, hb, ⟨us, hx, hr⟩ => ⟨us, hx, RepAs.ext h false cs _ hb hr⟩
  | .pe sz es i off, _, _, ⟨hi, xs, g, o, hr, hx, hg, hc⟩ => ⟨hi, xs, g, o, RepR.ext h.toExtI sz es xs hr, hx, h.imm g hg, fun j u hu => (cell_of_heap (p := ⟨g, o + j, none⟩) (h.same g hg)).trans (hc j u hu)⟩
  | .px id off, _, hb, ⟨g, hr, hx⟩ => ⟨g, (h.rho id hb).trans hr, hx⟩
  | .pr id sz k off, _, hb, ⟨g, n, c, hr, hk, hx⟩ => ⟨g, n, c, (h.rho id hb).trans hr, hk, hx⟩
  | .ow id n, _, hb, ⟨hx, hr⟩ => ⟨hx.trans (h.rho id hb).symm, hr⟩
  | .sx id n c, _, hb, ⟨g, hr, hx⟩ => ⟨g, (h.rho id hb).trans hr, hx⟩
  | .ov id sz k n, _, hb, ⟨g, m, c, hr, h1, h2, hx⟩ => ⟨g, m, c, (h.rho id hb).trans hr, h1, h2, hx⟩
  | .fs sz es, x, _, ⟨hr, hx⟩ => ⟨RepD.ext h.toExtI (.sl sz es) x hr, hx⟩
  | .fn f a b, _, hb, ⟨us, vs, hx, h1, h2⟩ => ⟨us, vs, hx, RepAs.ext h false a _ hb.1 h1, RepAs.ext h false b _ hb.2 h2⟩
  | .gd x a, v, hb, hx => by
    unfold RepA at hx ⊢
    split at hx
    · rename_i hx1; rw [if_pos hx1]; exact RepA.ext h a v (hb hx1) hx
    · rename_i hx1; rw [if_neg hx1]; exact hx
  | .un, _, _, _ => trivial
theorem RepAs.ext {β : Bx} {ρ ρ' : Nat → Value} {I I' : Nat → Prop} {w w' : World} (h : Ext β ρ I w ρ' I' w') (o : Bool) : ∀ (ds : List A) (l : List Value), A.insB β ds → RepAs ρ I w o ds l → RepAs ρ' I' w' o ds l
  | [], _, _, hx => hx
  | d :: ds, _, hb, ⟨u, us, hx, ho, hd, hr⟩ => ⟨u, us, hx, ho, RepA.ext h d u hb.1 hd, RepAs.ext h o ds us hb.2 hr⟩
end

def blk : Value → Option Nat
  | .pointer (some a) => some a.block
  | .slice (some a) _ _ => some a.block
  | _ => none
/-- The blocks of a box. -/
def Box.has : Box → World → Value → Nat → Prop
  | .var .., _, v, g => blk v = some g
  | .row .., _, v, g => blk v = some g
  | .itr .., _, v, g => blk v = some g
  | .res X, w, v, g => ∃ fs, X.rep w v fs ∧ g ∈ fs
  | .frz .., _, _, _ => False
  | .rel j X, w, v, g => ∃ u fs, X.rep w u v fs ∧ g ∈ fs
  | .dead, _, _, _ => False
def BoxRep (ρ : Nat → Value) (I : Nat → Prop) (w : World) (id : Nat) : Box → Prop
  | .var T cs => ∃ (g : Nat) (us : Array Value), ρ id = .pointer (some ⟨g, 0, none⟩) ∧ w.heap[g]? = some (.cells us T (0, 0)) ∧ RepAs ρ I w true cs us.toList
  | .row e sz es => ∃ xs, w.ownsRow 0 e sz (ρ id) es.length xs ∧ RepR I w sz es xs
  | .frz sz es => RepD I w (.sl sz es) (ρ id)
  | .itr s pos => ∃ g : Nat, ρ id = .pointer (some ⟨g, 0, none⟩) ∧ w.heap[g]? = some (.stringIter s pos)
  | .rel j X => ∃ fs, X.rep w (ρ j) (ρ id) fs
  | .dead => True
  | .res X => ∃ fs, X.rep w (ρ id) fs
theorem has_live {b : Box} {w : World} {v : Value} {g : Nat} (h : b.live = true) (hb : blk v = some g) : b.has w v g := by
  cases b with
  | var => exact hb
  | row => exact hb
  | itr => exact hb
  | _ => cases h
/-- What a box has does not turn while its blocks don't. -/
theorem has_back {ρ : Nat → Value} {I : Nat → Prop} {w w' : World} {id : Nat} {b : Box} {g : Nat} (h : BoxRep ρ I w id b) (hs : ∀ g, b.has w (ρ id) g → w'.heap[g]? = w.heap[g]?) (hg : b.has w' (ρ id) g) : b.has w (ρ id) g := by
  cases b with
  | res X =>
    obtain ⟨fs, h1⟩ := h
    obtain ⟨fs', h2, h3⟩ := hg
    have h4 := X.stay h1 fun g hm => hs g ⟨fs, h1, hm⟩
    rw [X.det h2 h4] at h3
    exact ⟨fs, h1, h3⟩
  | rel j X =>
    obtain ⟨fs, h1⟩ := h
    obtain ⟨u, fs', h2, h3⟩ := hg
    have h4 := X.stay h1 fun g hm => hs g ⟨_, fs, h1, hm⟩
    rw [X.det h2 h4] at h3
    exact ⟨_, fs, h1, h3⟩
  | _ => exact hg
/-- What does not turn while a call runs: the world w0 in which it began, the blocks that it may write of those that were there (PB), those that it may read (I0), the size of its frame. -/
structure Ctx where
  w0 : World
  PB : Nat → Prop
  I0 : Nat → Prop
  N : Nat
  K : Nat → Bool
  args : Nat → Value
  dfs : List Deferred := []
/-- The listed variables of packages are there, in blocks that are only read. -/
def GlOk (I : Nat → Prop) (w : World) : Prop := (∀ g cs, Gs g = some cs → I g ∧ ∃ xs, RepR I w cs.length [cs] xs ∧ ∀ (j : Nat) (u : Value), xs[j]? = some u → w.cell? ⟨g, j, none⟩ = some u) ∧ (∀ g ∈ GiL, I g ∧ ∃ m : Int, w.cell? ⟨g, 0, none⟩ = some (.int .i64 m)) ∧ ∀ p ∈ GtL, I p.1 ∧ ∃ t o, w.heap[p.1]? = some (.cells p.2 t o)
theorem GlOk.ext {I : Nat → Prop} {w : World} {I' : Nat → Prop} {w' : World} (h : GlOk I w) (hx : ExtI I w I' w') : GlOk I' w' := by
  refine ⟨fun g cs hg => ?_, fun g hg => ?_, fun p hp => ?_⟩
  · obtain ⟨h1, xs, h2, h3⟩ := h.1 g cs hg
    exact ⟨hx.imm g h1, xs, RepR.ext hx _ _ _ h2, fun j u hu => (cell_of_heap (p := ⟨g, j, none⟩) (hx.same g h1)).trans (h3 j u hu)⟩
  · obtain ⟨h1, m, h2⟩ := h.2.1 g hg
    exact ⟨hx.imm g h1, m, (cell_of_heap (p := ⟨g, 0, none⟩) (hx.same g h1)).trans h2⟩
  · obtain ⟨h1, t, o, h2⟩ := h.2.2 p hp
    exact ⟨hx.imm p.1 h1, t, o, (hx.same p.1 h1).trans h2⟩
structure Mem (C : Ctx) (β : Bx) (ρ : Nat → Value) (I : Nat → Prop) (w : World) : Prop where
  os : w.os = C.w0.os
  tape : w.tape = C.w0.tape
  output : w.output = C.w0.output
  size : C.w0.heap.size ≤ w.heap.size
  frame : ∀ k, k < C.w0.heap.size → ¬ C.PB k → w.heap[k]? = C.w0.heap[k]?
  imm : ∀ g, I g → g < w.heap.size
  new : ∀ g, I g → C.I0 g ∨ C.w0.heap.size ≤ g ∨ C.PB g
  box : ∀ id b, look id β = some b → BoxRep ρ I w id b
  own : ∀ id b g, look id β = some b → b.has w (ρ id) g → g < w.heap.size ∧ ¬ I g ∧ (C.w0.heap.size ≤ g ∨ C.PB g)
  inj : ∀ i j b b' g, look i β = some b → look j β = some b' → b.has w (ρ i) g → b'.has w (ρ j) g → i = j
  clo : ∀ id b, look id β = some b → b.inB β
  gl : GlOk I w
theorem Mem.congr {C : Ctx} {β γ : Bx} {ρ : Nat → Value} {I : Nat → Prop} {w : World} (h : Mem C β ρ I w) (e : ∀ id, look id γ = look id β) : Mem C γ ρ I w where
  os := h.os
  tape := h.tape
  output := h.output
  size := h.size
  frame := h.frame
  imm := h.imm
  new := h.new
  box := fun id b hb => h.box id b ((e id).symm.trans hb)
  own := fun id b g hb => h.own id b g ((e id).symm.trans hb)
  inj := fun i j b b' g hb hb' => h.inj i j b b' g ((e i).symm.trans hb) ((e j).symm.trans hb')
  clo := fun id b hb => Box.inB_mono (fun i hi => by unfold dom at *; rw [e i]; exact hi) b (h.clo id b ((e id).symm.trans hb))
  gl := h.gl
theorem Mem.drewN {C : Ctx} {β : Bx} {ρ : Nat → Value} {I : Nat → Prop} {w : World} (h : Mem C β ρ I w) (n : Nat) : Mem C β ρ I { w with drawn := n } := by
  have hx : ExtI I w I { w with drawn := n } := ⟨fun _ h => h, fun _ _ => rfl⟩
  have hh : ∀ (b : Box) (g : Nat) (id : Nat), look id β = some b → b.has { w with drawn := n } (ρ id) g → b.has w (ρ id) g := fun b g id hb hg => has_back (w' := { w with drawn := n }) (h.box id b hb) (fun _ _ => rfl) hg
  refine ⟨h.os, h.tape, h.output, h.size, h.frame, h.imm, h.new, fun id b hb => ?_, fun id b g hb hg => h.own id b g hb (hh b g id hb hg), fun i j b b' g hb hb' hg hg' => h.inj i j b b' g hb hb' (hh b g i hb hg) (hh b' g j hb' hg'), h.clo, h.gl.ext hx⟩
  have := h.box id b hb
  cases b with
  | var T cs =>
    obtain ⟨g, us, h1, h2, h3⟩ := this
    exact ⟨g, us, h1, h2, RepAs.ext (β := β) ⟨hx, fun _ _ => rfl⟩ true cs _ (h.clo id _ hb) h3⟩
  | row e sz es =>
    obtain ⟨xs, h1, h2⟩ := this
    exact ⟨xs, h1, RepR.ext hx sz es xs h2⟩
  | frz sz es => exact RepD.ext hx _ _ this
  | itr s pos => exact this
  | rel j X =>
    obtain ⟨fs, h1⟩ := this
    exact ⟨fs, X.stay h1 fun _ _ => rfl⟩
  | dead => trivial
  | res X =>
    obtain ⟨fs, h1⟩ := this
    exact ⟨fs, X.stay h1 fun _ _ => rfl⟩

def evC : Value → A
  | .slice none 0 0 => .d .nl
  | v => if v.oneCell' = true then .d (.sc v) else .un
def ev (σ : Sl) : Operand → A
  | .tmp t => (look t σ).getD .un
  | .const v => evC v
  | .global g => match Gs g with
    | some cs => .pe cs.length [cs] 0 0
    | none => .un
  | .func f => .fn (.func f) [] []
def Agreeing (β γ : Bx) (l : List Nat) : Prop := ∀ id ∈ l, look id γ = look id β
/-- The operation does just so, wherever the boxes that it reads or writes are as they are: it yields v and turns the boxes ups. -/
def Does (P : Program) (dst : Option Nat) (op : Op) (ty : TypeId) (e : Operand → A) (β : Bx) (v : A) (ups : Bx) (rd : List Nat) : Prop :=
  ∀ (C : Ctx) (γ : Bx), Agreeing β γ (rd ++ ups.map (·.1)) → ∀ (ρ : Nat → Value) (I : Nat → Prop) (w : World), Mem C γ ρ I w → ∀ a : Act,
    (∀ x ∈ op.operands.toList, (e x).inB γ ∧ RepA ρ I w (e x) (a.eval x)) → ∀ o : Oper, o.op = op → o.dst = dst → o.type = ty → ∀ (K : Act → World → Prop) (Q : Exit → Act → World → Prop),
      (∀ vv ρ' I' w', Mem C (ups ++ γ) ρ' I' w' → Ext γ ρ I w ρ' I' w' → v.inB (ups ++ γ) → RepA ρ' I' w' v vv → K (a.put dst vv) w') → Oper.wp P o a w K Q
def stripA : A → A
  | .gd _ v => v
  | v => v
def gdOk (x : Bool) : A → Prop
  | .gd y _ => x = true → y = true
  | _ => True
def gates (x : Bool) (e : Operand → A) : List Operand → Prop
  | [] => True
  | y :: r => gdOk x (e y) ∧ gates x e r
/-- Of the operands chosen: their guards follow; they are read without them. -/
def selU (sel : Operand → Bool) (e : Operand → A) : Operand → A := fun y => bif sel y then e y else .un
def selA (sel : Operand → Bool) (e : Operand → A) : Operand → A := fun y => bif sel y then stripA (e y) else e y
def gval (σ : Sl) (t : Nat) (want : Bool) : Option Bool := match look t σ with
  | some (.d (.sc (.bool x))) => some (bif want then x else !x)
  | some (.gd y (.d (.sc (.bool x)))) => some (y && (bif want then x else !x))
  | _ => none
def guardT (all : List Oper) (o : Oper) : Option (Option (Nat × Bool)) := match o.guard with
  | none => none
  | some (j, want) => some (((all[j]?).bind (·.dst)).map fun t => (t, want))
def StepSem (P : Program) (all : List Oper) (σ : Sl) (β : Bx) (o : Oper) (v : A) (ups : Bx) (rd : List Nat) : Prop := match guardT all o with
  | none => Does P o.dst o.op o.type (ev σ) β v ups rd
  | some (some (t, want)) => (∃ x v' sel, gval σ t want = some x ∧ gates x (selU sel (ev σ)) o.op.operands.toList ∧ v = .gd x v' ∧ ups = [] ∧ (x = true → Does P o.dst o.op o.type (selA sel (ev σ)) β v' [] rd)) ∨
    (∃ sel, gval σ t want = some true ∧ gates true (selU sel (ev σ)) o.op.operands.toList ∧ Does P o.dst o.op o.type (selA sel (ev σ)) β v ups rd)
  | some none => False
/-- A frame. -/
structure Fr (C : Ctx) (σ : Sl) (β : Bx) (ρ : Nat → Value) (I : Nat → Prop) (w : World) (a : Act) : Prop where
  defers : a.defers = C.dfs
  size : a.tmps.size = C.N
  keep : ∀ t, C.K t = true → a.tmps.getD t undef = C.args t
  val : ∀ t v, look t σ = some v → t < C.N ∧ v.inB β ∧ RepA ρ I w v (a.tmps.getD t undef)
end Go.Proofs.YtfplkakfakdfhaaDoor


/-
  The pure layer: a region, in the order of its text and in whatever order its edges allow. No condition.
-/
namespace Go.Proofs.YtfplkakfakdfhaaDoor
set_option linter.unusedSimpArgs false
set_option linter.unusedVariables false
open Go.RowKit

theorem Fr.ev {C : Ctx} {σ : Sl} {β : Bx} {ρ : Nat → Value} {I : Nat → Prop} {w : World} {a : Act} (hm : Mem C β ρ I w) (h : Fr C σ β ρ I w a) (x : Operand) : (ev σ x).inB β ∧ RepA ρ I w (ev σ x) (a.eval x) := by
  cases x with
  | tmp t =>
    show ((look t σ).getD .un).inB β ∧ RepA ρ I w ((look t σ).getD .un) (a.tmps.getD t undef)
    cases ht : look t σ with
    | none => exact ⟨trivial, trivial⟩
    | some v => exact (h.val t v ht).2
  | const v =>
    show (evC v).inB β ∧ RepA ρ I w (evC v) v
    unfold evC
    split
    · exact ⟨trivial, rfl⟩
    · split
      · rename_i h1
        exact ⟨trivial, rfl, h1⟩
      · exact ⟨trivial, trivial⟩
  | global g =>
    show (match Gs g with | some cs => A.pe cs.length [cs] 0 0 | none => A.un).inB β ∧ RepA ρ I w (match Gs g with | some cs => A.pe cs.length [cs] 0 0 | none => A.un) (.pointer (some ⟨g, 0, none⟩))
    cases hg : Gs g with
    | none => exact ⟨trivial, trivial⟩
    | some cs =>
      obtain ⟨h1, xs, h2, h3⟩ := hm.gl.1 g cs hg
      exact ⟨trivial, Nat.one_pos, xs, g, 0, h2, by simp, h1, fun j u hu => by rw [Nat.zero_add]; exact h3 j u hu⟩
  | func f => exact ⟨⟨trivial, trivial⟩, #[], #[], rfl, rfl, rfl⟩
theorem Ext.refl (β : Bx) (ρ : Nat → Value) (I : Nat → Prop) (w : World) : Ext β ρ I w ρ I w := ⟨⟨fun _ h => h, fun _ _ => rfl⟩, fun _ _ => rfl⟩

def tmpsOf : List Operand → List Nat
  | [] => []
  | .tmp t :: r => t :: tmpsOf r
  | _ :: r => tmpsOf r
def insOf (all : List Oper) (o : Oper) : List Nat := (match guardT all o with
  | some (some (t, _)) => [t]
  | _ => []) ++ tmpsOf o.op.operands.toList
theorem tmpsOf_mem {t : Nat} : ∀ {l : List Operand}, Operand.tmp t ∈ l → t ∈ tmpsOf l
  | x :: r, h => by
    rcases List.mem_cons.1 h with rfl | h
    · simp [tmpsOf]
    · have := tmpsOf_mem h
      cases x <;> simp [tmpsOf, this]
theorem ev_eq {σ τ : Sl} {l : List Operand} (h : ∀ t ∈ tmpsOf l, look t τ = look t σ) : ∀ x ∈ l, ev τ x = ev σ x := by
  intro x hx
  cases x with
  | tmp t => show (look t τ).getD .un = (look t σ).getD .un; rw [h t (tmpsOf_mem hx)]
  | const v => rfl
  | global g => rfl
  | func f => rfl
theorem gates_mem {x : Bool} {e : Operand → A} : ∀ {l : List Operand}, gates x e l → ∀ y ∈ l, gdOk x (e y)
  | z :: r, h, y, hy => by
    rcases List.mem_cons.1 hy with rfl | hy
    · exact h.1
    · exact gates_mem h.2 y hy
theorem strip_ok {C : Ctx} {β : Bx} {ρ : Nat → Value} {I : Nat → Prop} {w : World} {v : A} {u : Value} (hg : gdOk true v) (hb : v.inB β) (hr : RepA ρ I w v u) : (stripA v).inB β ∧ RepA ρ I w (stripA v) u := by
  cases v with
  | gd y v =>
    have hy : y = true := hg rfl
    refine ⟨hb hy, ?_⟩
    unfold RepA at hr
    rw [if_pos hy] at hr
    exact hr
  | _ => exact ⟨hb, hr⟩
def putS (t : Option Nat) (v : A) (σ : Sl) : Sl := match t with
  | some t => (t, v) :: σ
  | none => σ
theorem look_putS (t : Option Nat) (v : A) (σ : Sl) (k : Nat) : look k (putS t v σ) = if t = some k then some v else look k σ := by
  cases t with
  | none => simp [putS]
  | some t => simp [putS, look_cons]

theorem repA_sc {ρ : Nat → Value} {I : Nat → Prop} {w : World} {v x : Value} (h : RepA ρ I w (.d (.sc v)) x) : x = v := h.1
theorem repA_gd_t {ρ : Nat → Value} {I : Nat → Prop} {w : World} {v : A} {x : Value} {y : Bool} (h : RepA ρ I w (.gd y v) x) (hy : y = true) : RepA ρ I w v x := by
  unfold RepA at h
  rwa [if_pos hy] at h
theorem repA_gd_f {ρ : Nat → Value} {I : Nat → Prop} {w : World} {v : A} {x : Value} {y : Bool} (h : RepA ρ I w (.gd y v) x) (hy : ¬ y = true) : x = undef := by
  unfold RepA at h
  rwa [if_neg hy] at h
theorem gval_yields {C : Ctx} {σ : Sl} {β : Bx} {ρ : Nat → Value} {I : Nat → Prop} {w : World} {a : Act} (hf : Fr C σ β ρ I w a) {all : List Oper} {o : Oper} {t : Nat} {want x : Bool} (hgd : guardT all o = some (some (t, want)))
    (hx : gval σ t want = some x) : Region.wanted o (yielded all.toArray a.tmps) = x := by
  unfold guardT at hgd
  cases hg : o.guard with
  | none => rw [hg] at hgd; simp at hgd
  | some p =>
    obtain ⟨j, want'⟩ := p
    rw [hg] at hgd
    simp only [Option.some.injEq] at hgd
    cases hj : (all[j]?).bind (·.dst) with
    | none => rw [hj] at hgd; simp at hgd
    | some t' =>
      rw [hj] at hgd
      simp only [Option.map_some, Option.some.injEq, Prod.mk.injEq] at hgd
      obtain ⟨rfl, rfl⟩ := hgd
      have hyl : ∀ u, a.tmps.getD t' undef = u → t' < a.tmps.size → yielded all.toArray a.tmps j = (match u with | .bool b => some b | _ => none) := by
        intro u hu hlt
        unfold yielded
        have e1 : ((all.toArray[j]?).bind (·.dst)) = some t' := by simpa using hj
        rw [e1]
        simp only [Option.bind_some]
        rw [Array.getElem?_eq_getElem hlt]
        rw [Array.getD_eq_getD_getElem?, Array.getElem?_eq_getElem hlt, Option.getD_some] at hu
        rw [hu]
        cases u <;> rfl
      unfold gval at hx
      cases ht : look t' σ with
      | none => rw [ht] at hx; simp at hx
      | some v =>
        rw [ht] at hx
        obtain ⟨hlt, _, hrep⟩ := hf.val t' v ht
        rw [← hf.size] at hlt
        simp only [Region.wanted, hg]
        split at hx
        · rename_i b heq
          simp only [Option.some.injEq] at heq hx
          subst heq hx
          rw [hyl _ (repA_sc hrep) hlt]
          cases b <;> cases want' <;> rfl
        · rename_i y b heq
          simp only [Option.some.injEq] at heq hx
          subst heq hx
          by_cases hy : y = true
          · rw [hyl _ (repA_sc (repA_gd_t hrep hy)) hlt, hy]
            cases b <;> cases want' <;> rfl
          · rw [hyl _ (repA_gd_f hrep hy) hlt]
            have : y = false := by simpa using hy
            subst this
            rfl
        · simp at hx
theorem step_ok {P : Program} {all : List Oper} {σ τ : Sl} {β γ : Bx} {o : Oper} {v : A} {ups : Bx} {rd : List Nat} (h : StepSem P all σ β o v ups rd) {C : Ctx} (hag : Agreeing β γ (rd ++ ups.map (·.1)))
    (hτ : ∀ t ∈ insOf all o, look t τ = look t σ) {ρ : Nat → Value} {I : Nat → Prop} {w : World} {a : Act} (hm : Mem C γ ρ I w) (hf : Fr C τ γ ρ I w a) (K : Act → World → Prop) (Q : Exit → Act → World → Prop)
    (hK : ∀ vv ρ' I' w', Mem C (ups ++ γ) ρ' I' w' → Ext γ ρ I w ρ' I' w' → v.inB (ups ++ γ) → RepA ρ' I' w' v vv → K (a.put o.dst vv) w') :
    if Region.wanted o (yielded all.toArray a.tmps) = true then Oper.wp P o a w K Q else K (a.put o.dst undef) w := by
  have hev : ∀ x ∈ o.op.operands.toList, ev τ x = ev σ x := ev_eq fun t ht => hτ t (by unfold insOf; exact List.mem_append_right _ ht)
  unfold StepSem at h
  cases hg : guardT all o with
  | none =>
    rw [hg] at h
    have hno : o.guard = none := by
      unfold guardT at hg
      cases hgo : o.guard with
      | none => rfl
      | some p => rw [hgo] at hg; simp at hg
    rw [if_pos (by simp [Region.wanted, hno])]
    exact h C γ hag ρ I w hm a (fun x hx => by rw [← hev x hx]; exact hf.ev hm x) o rfl rfl rfl K Q hK
  | some p =>
    cases p with
    | none => rw [hg] at h; exact h.elim
    | some p =>
      obtain ⟨t, want⟩ := p
      rw [hg] at h
      rcases h with ⟨x, v', sel, hx, hgt, rfl, rfl, hd⟩ | ⟨sel, hx, hgt, hd⟩
      rotate_left
      · have hx2 : gval τ t want = some true := by
          unfold gval at hx ⊢
          rw [hτ t (by unfold insOf; rw [hg]; simp)]
          exact hx
        rw [gval_yields hf hg hx2, if_pos rfl]
        refine hd C γ hag ρ I w hm a (fun y hy => ?_) o rfl rfl rfl K Q hK
        have := hf.ev hm y
        rw [hev y hy] at this
        have hg1 := gates_mem hgt y hy
        unfold selU at hg1
        unfold selA
        cases hs : sel y with
        | true =>
          rw [hs] at hg1
          exact strip_ok (C := C) hg1 this.1 this.2
        | false => exact this
      have hx2 : gval τ t want = some x := by
        unfold gval at hx ⊢
        rw [hτ t (by unfold insOf; rw [hg]; simp)]
        exact hx
      rw [gval_yields hf hg hx2]
      cases x with
      | true =>
        rw [if_pos rfl]
        refine hd rfl C γ hag ρ I w hm a (fun y hy => ?_) o rfl rfl rfl K Q (fun vv ρ' I' w' h1 h2 h3 h4 => hK vv ρ' I' w' h1 h2 (fun _ => h3) ?_)
        · have := hf.ev hm y
          rw [hev y hy] at this
          have hg1 := gates_mem hgt y hy
          unfold selU at hg1
          unfold selA
          cases hs : sel y with
          | true =>
            rw [hs] at hg1
            exact strip_ok (C := C) hg1 this.1 this.2
          | false => exact this
        · unfold RepA; rw [if_pos rfl]; exact h4
      | false =>
        rw [if_neg (by simp)]
        refine hK undef ρ I w (by simpa using hm) (Ext.refl _ _ _ _) (fun h => by cases h) ?_
        unfold RepA; rw [if_neg (by simp)]
theorem Fr.put {C : Ctx} {σ : Sl} {β : Bx} {ρ ρ' : Nat → Value} {I I' : Nat → Prop} {w w' : World} {a : Act} (hf : Fr C σ β ρ I w a) {ups : Bx} (hx : Ext β ρ I w ρ' I' w') {dst : Option Nat} (hd : ∀ t, dst = some t → C.K t = false ∧ t < C.N) {v : A} {vv : Value}
    (hb : v.inB (ups ++ β)) (hr : RepA ρ' I' w' v vv) : Fr C (putS dst v σ) (ups ++ β) ρ' I' w' (a.put dst vv) := by
  have hold : ∀ t u, look t σ = some u → t < C.N ∧ u.inB (ups ++ β) ∧ RepA ρ' I' w' u (a.tmps.getD t undef) := fun t u hu => by
    obtain ⟨h1, h2, h3⟩ := hf.val t u hu
    exact ⟨h1, A.inB_mono (fun i hi => dom_append hi) u h2, RepA.ext hx u _ h2 h3⟩
  cases dst with
  | none => exact ⟨hf.defers, hf.size, hf.keep, hold⟩
  | some d =>
    have hdN := (hd d rfl).2
    have hdK := (hd d rfl).1
    refine ⟨hf.defers, by simpa [Act.put] using hf.size, fun t ht => ?_, fun t u hu => ?_⟩
    · show (a.tmps.setIfInBounds d vv).getD t undef = C.args t
      have : (a.tmps.setIfInBounds d vv).getD t undef = a.tmps.getD t undef := by simp [Array.getD_eq_getD_getElem?, Array.getElem?_setIfInBounds_ne (show d ≠ t from fun h => by rw [h, ht] at hdK; cases hdK)]
      rw [this]; exact hf.keep t ht
    show t < C.N ∧ _ ∧ RepA ρ' I' w' u ((a.tmps.setIfInBounds d vv).getD t undef)
    rw [look_putS] at hu
    by_cases hdt : d = t
    · subst hdt
      rw [if_pos rfl] at hu
      simp only [Option.some.injEq] at hu
      subst hu
      refine ⟨hdN, hb, ?_⟩
      have : (a.tmps.setIfInBounds d vv).getD d undef = vv := by simp [Array.getD_eq_getD_getElem?, hf.size, hdN]
      rw [this]; exact hr
    · rw [if_neg (by simpa using hdt)] at hu
      have : (a.tmps.setIfInBounds d vv).getD t undef = a.tmps.getD t undef := by simp [Array.getD_eq_getD_getElem?, Array.getElem?_setIfInBounds_ne hdt]
      rw [this]; exact hold t u hu

/-- A region in the order of its text. -/
def runP (P : Program) (all : List Oper) : List Oper → Sl → Bx → (Sl → Bx → Prop) → Prop
  | [], σ, β, K => K σ β
  | o :: r, σ, β, K => ∃ v ups rd, StepSem P all σ β o v ups rd ∧ runP P all r (putS o.dst v σ) (ups ++ β) K
def dstsOk (K : Nat → Bool) (N : Nat) (ops : List Oper) : Bool := ops.all fun o => match o.dst with
  | some t => !(K t) && decide (t < N)
  | none => true
theorem runP_sound {P : Program} {all : List Oper} {C : Ctx} {Q : Exit → Act → World → Prop} {K : Sl → Bx → Prop} (hQ : ∀ σ β ρ I w a, K σ β → Mem C β ρ I w → Fr C σ β ρ I w a → Q .normal a w) :
    ∀ (ops : List Oper) (σ : Sl) (β : Bx) (ρ : Nat → Value) (I : Nat → Prop) (w : World) (a : Act), dstsOk C.K C.N ops = true → runP P all ops σ β K → Mem C β ρ I w → Fr C σ β ρ I w a → wpList P all.toArray Q ops a w
  | [], σ, β, ρ, I, w, a, _, h, hm, hf => hQ σ β ρ I w a h hm hf
  | o :: r, σ, β, ρ, I, w, a, hd, ⟨v, ups, rd, hs, h⟩, hm, hf => by
    simp only [dstsOk, List.all_cons, Bool.and_eq_true] at hd
    refine wpList_step fun K' hK' => ?_
    refine step_ok hs (fun _ _ => rfl) (fun _ _ => rfl) hm hf K' Q fun vv ρ' I' w' h1 h2 h3 h4 => hK' _ _ ?_
    refine runP_sound hQ r _ _ ρ' I' w' _ hd.2 h h1 (hf.put h2 (fun t ht => ?_) h3 h4)
    have := hd.1
    rw [ht] at this
    simpa using this

structure Rec where
  dst : Option Nat
  ins : List Nat
  rd : List Nat
  wr : List Nat
  after : List Nat
def mkRec (all : List Oper) (o : Oper) (ups : Bx) (rd : List Nat) : Rec :=
  { dst := o.dst, ins := insOf all o, rd := rd, wr := ups.map (·.1), after := (o.after.toList.filter (Region.binds .any)).map (·.on) }
def meets (l m : List Nat) : Bool := l.any fun x => m.any fun y => x == y
def apart (a b : Rec) : Bool := !(meets a.dst.toList b.ins) && !(meets b.dst.toList a.ins) && !(meets a.dst.toList b.dst.toList) && !(meets a.wr b.rd) && !(meets a.wr b.wr) && !(meets a.rd b.wr)
/-- The operations that must have run ahead of each, by number. -/
def dd : List Nat → List Nat → List Nat
  | [], acc => acc
  | x :: l, acc => bif acc.any (fun y => y == x) then dd l acc else dd l (x :: acc)
theorem dd_mem : ∀ {l acc : List Nat} {x : Nat}, x ∈ dd l acc → x ∈ l ∨ x ∈ acc
  | [], acc, x, h => .inr h
  | y :: l, acc, x, h => by
    unfold dd at h
    cases hc : acc.any (fun z => z == y) with
    | true =>
      rw [hc] at h
      rcases dd_mem (l := l) (acc := acc) h with h | h
      · exact .inl (List.mem_cons_of_mem _ h)
      · exact .inr h
    | false =>
      rw [hc] at h
      rcases dd_mem (l := l) (acc := y :: acc) h with h | h
      · exact .inl (List.mem_cons_of_mem _ h)
      · rcases List.mem_cons.1 h with rfl | h
        · exact .inl List.mem_cons_self
        · exact .inr h
def ancs : List Rec → List (List Nat) → List (List Nat)
  | [], acc => acc
  | r :: rs, acc => ancs rs (acc ++ [dd (r.after ++ r.after.flatMap fun i => (acc[i]?).getD []) []])
def okOrder (rs : List Rec) : Bool :=
  (List.range rs.length).all fun j => match rs[j]?, (ancs rs [])[j]? with
    | some b, some aj => b.after.all (fun i => decide (i < j)) && (List.range j).all fun i => aj.any (fun k => k == i) || (match rs[i]? with | some a => apart a b | none => true)
    | _, _ => false
/-- A region that draws its order. -/
def runD (P : Program) (all : List Oper) : List Oper → Sl → Bx → List Rec → (Sl → Bx → Prop) → Prop
  | [], σ, β, rs, K => okOrder rs.reverse = true ∧ K σ β
  | o :: r, σ, β, rs, K => ∃ v ups rd, StepSem P all σ β o v ups rd ∧ runD P all r (putS o.dst v σ) (ups ++ β) (mkRec all o ups rd :: rs) K

structure Item where
  o : Oper
  v : A
  ups : Bx
  rd : List Nat
def Item.note (all : List Oper) (it : Item) : Rec := mkRec all it.o it.ups it.rd
def stateOf (S : Nat → Bool) : List Item → Nat → Sl → Bx → Sl × Bx
  | [], _, σ, β => (σ, β)
  | it :: r, i, σ, β => if S i = true then stateOf S r (i + 1) (putS it.o.dst it.v σ) (it.ups ++ β) else stateOf S r (i + 1) σ β
def Tr (P : Program) (all : List Oper) : List Item → Sl → Bx → Prop
  | [], _, _ => True
  | it :: r, σ, β => StepSem P all σ β it.o it.v it.ups it.rd ∧ Tr P all r (putS it.o.dst it.v σ) (it.ups ++ β)
theorem runD_items {P : Program} {all : List Oper} {K : Sl → Bx → Prop} : ∀ (ops : List Oper) (σ : Sl) (β : Bx) (rs : List Rec) (k : Nat), runD P all ops σ β rs K →
    ∃ its : List Item, its.map (·.o) = ops ∧ Tr P all its σ β ∧ okOrder (rs.reverse ++ its.map (Item.note all)) = true ∧ K (stateOf (fun _ => true) its k σ β).1 (stateOf (fun _ => true) its k σ β).2
  | [], σ, β, rs, k, h => ⟨[], rfl, trivial, by simpa using h.1, h.2⟩
  | o :: r, σ, β, rs, k, ⟨v, ups, rd, hs, h⟩ => by
    obtain ⟨its, h1, h2, h3, h4⟩ := runD_items r _ _ _ (k + 1) h
    refine ⟨⟨o, v, ups, rd⟩ :: its, by simp [h1], ⟨hs, h2⟩, ?_, h4⟩
    simpa [Item.note] using h3
theorem state_slot (t : Nat) (S S' : Nat → Bool) : ∀ (its : List Item) (k : Nat) (σ σ' : Sl) (β β' : Bx), (∀ i it, its[i]? = some it → it.o.dst = some t → S (k + i) = S' (k + i)) → look t σ = look t σ' →
    look t (stateOf S its k σ β).1 = look t (stateOf S' its k σ' β').1
  | [], k, σ, σ', β, β', h, e => e
  | it :: r, k, σ, σ', β, β', h, e => by
    have hr : ∀ i it', r[i]? = some it' → it'.o.dst = some t → S (k + 1 + i) = S' (k + 1 + i) := fun i it' hi hd => by
      have := h (i + 1) it' (by simpa using hi) hd
      rwa [show k + (i + 1) = k + 1 + i by omega] at this
    unfold stateOf
    by_cases hd : it.o.dst = some t
    · have h0 := h 0 it rfl hd
      rw [Nat.add_zero] at h0
      rw [h0]
      split
      · exact state_slot t S S' r _ _ _ _ _ hr (by rw [look_putS, look_putS, if_pos hd, if_pos hd])
      · exact state_slot t S S' r _ _ _ _ _ hr e
    · split <;> split <;> exact state_slot t S S' r _ _ _ _ _ hr (by simp only [look_putS, if_neg hd, e])
theorem state_box (id : Nat) (S S' : Nat → Bool) : ∀ (its : List Item) (k : Nat) (σ σ' : Sl) (β β' : Bx), (∀ i it, its[i]? = some it → id ∈ it.ups.map (·.1) → S (k + i) = S' (k + i)) → look id β = look id β' →
    look id (stateOf S its k σ β).2 = look id (stateOf S' its k σ' β').2
  | [], k, σ, σ', β, β', h, e => e
  | it :: r, k, σ, σ', β, β', h, e => by
    have hr : ∀ i it', r[i]? = some it' → id ∈ it'.ups.map (·.1) → S (k + 1 + i) = S' (k + 1 + i) := fun i it' hi hd => by
      have := h (i + 1) it' (by simpa using hi) hd
      rwa [show k + (i + 1) = k + 1 + i by omega] at this
    unfold stateOf
    by_cases hd : id ∈ it.ups.map (·.1)
    · have h0 := h 0 it rfl hd
      rw [Nat.add_zero] at h0
      rw [h0]
      split
      · exact state_box id S S' r _ _ _ _ _ hr (by rw [look_append, look_append, e])
      · exact state_box id S S' r _ _ _ _ _ hr e
    · have hn : look id it.ups = none := look_none hd
      split <;> split <;> exact state_box id S S' r _ _ _ _ _ hr (by simp only [look_append, hn, Option.none_or, e])
theorem stateOf_cons (S : Nat → Bool) (it : Item) (r : List Item) (k : Nat) (σ : Sl) (β : Bx) : stateOf S (it :: r) k σ β = if S k = true then stateOf S r (k + 1) (putS it.o.dst it.v σ) (it.ups ++ β) else stateOf S r (k + 1) σ β := rfl
theorem stateOf_none (S : Nat → Bool) : ∀ (r : List Item) (k : Nat) (σ : Sl) (β : Bx), (∀ i, k ≤ i → S i = false) → stateOf S r k σ β = (σ, β) := by
  intro r
  induction r with
  | nil => intros; rfl
  | cons x r ih =>
    intro k σ β h
    rw [stateOf_cons, if_neg (by simp [h k (Nat.le_refl k)])]
    exact ih _ _ _ fun i hi => h i (by omega)
/-- Operation j comes last: what it writes stands. -/
theorem state_add_slot (S : Nat → Bool) (j t : Nat) (it : Item) (hj : S j = false) : ∀ (its : List Item) (k : Nat) (σ : Sl) (β : Bx) (m : Nat), its[m]? = some it → k + m = j →
    (∀ i it', m < i → its[i]? = some it' → it'.o.dst = some t → it.o.dst = some t → S (k + i) = false) →
    look t (stateOf (fun i => S i || i == j) its k σ β).1 = look t (putS it.o.dst it.v (stateOf S its k σ β).1) := by
  intro its
  induction its with
  | nil => intro k σ β m hm; simp at hm
  | cons it0 r ih =>
    intro k σ β m hm hk hn
    rw [stateOf_cons, stateOf_cons]
    cases m with
    | zero =>
      simp only [List.getElem?_cons_zero, Option.some.injEq] at hm
      subst hm
      have hkj : k = j := by omega
      subst hkj
      rw [if_pos (by simp), if_neg (by simp [hj]), look_putS]
      by_cases hd : it0.o.dst = some t
      · rw [if_pos hd]
        have e := state_slot t (fun i => S i || i == k) (fun _ => false) r (k + 1) (putS it0.o.dst it0.v σ) (putS it0.o.dst it0.v σ) (it0.ups ++ β) β (fun i it' hi hd' => by
          have h1 := hn (i + 1) it' (by omega) (by simpa using hi) hd' hd
          have hne : (k + 1 + i == k) = false := by simp; omega
          rw [show k + (i + 1) = k + 1 + i by omega] at h1
          simp [h1, hne]) rfl
        rw [e, stateOf_none _ _ _ _ _ (fun _ _ => rfl), look_putS, if_pos hd]
      · rw [if_neg hd]
        refine state_slot t _ _ r (k + 1) _ _ _ _ (fun i it' hi hd' => ?_) (by rw [look_putS, if_neg hd])
        have hne : (k + 1 + i == k) = false := by simp; omega
        simp [hne]
    | succ m =>
      have hkj : (k == j) = false := by simp; omega
      have hr2 : ∀ i it', m < i → r[i]? = some it' → it'.o.dst = some t → it.o.dst = some t → S (k + 1 + i) = false := fun i it' hmi hi hd hd0 => by
        have := hn (i + 1) it' (by omega) (by simpa using hi) hd hd0
        rwa [show k + (i + 1) = k + 1 + i by omega] at this
      simp only [hkj, Bool.or_false]
      split
      · exact ih (k + 1) _ _ m (by simpa using hm) (by omega) hr2
      · exact ih (k + 1) _ _ m (by simpa using hm) (by omega) hr2
theorem state_add_box (S : Nat → Bool) (j id : Nat) (it : Item) (hj : S j = false) : ∀ (its : List Item) (k : Nat) (σ : Sl) (β : Bx) (m : Nat), its[m]? = some it → k + m = j →
    (∀ i it', m < i → its[i]? = some it' → id ∈ it'.ups.map (·.1) → id ∈ it.ups.map (·.1) → S (k + i) = false) →
    look id (stateOf (fun i => S i || i == j) its k σ β).2 = look id (it.ups ++ (stateOf S its k σ β).2) := by
  intro its
  induction its with
  | nil => intro k σ β m hm; simp at hm
  | cons it0 r ih =>
    intro k σ β m hm hk hn
    rw [stateOf_cons, stateOf_cons]
    cases m with
    | zero =>
      simp only [List.getElem?_cons_zero, Option.some.injEq] at hm
      subst hm
      have hkj : k = j := by omega
      subst hkj
      rw [if_pos (by simp), if_neg (by simp [hj]), look_append]
      by_cases hd : id ∈ it0.ups.map (·.1)
      · obtain ⟨b, hb⟩ := look_some_of hd
        have e := state_box id (fun i => S i || i == k) (fun _ => false) r (k + 1) (putS it0.o.dst it0.v σ) σ (it0.ups ++ β) (it0.ups ++ β) (fun i it' hi hd' => by
          have h1 := hn (i + 1) it' (by omega) (by simpa using hi) hd' hd
          have hne : (k + 1 + i == k) = false := by simp; omega
          rw [show k + (i + 1) = k + 1 + i by omega] at h1
          simp [h1, hne]) rfl
        rw [e, stateOf_none _ _ _ _ _ (fun _ _ => rfl), look_append, hb]
        rfl
      · rw [look_none hd, Option.none_or]
        refine state_box id _ _ r (k + 1) _ _ _ _ (fun i it' hi hd' => ?_) (by rw [look_append, look_none hd, Option.none_or])
        have hne : (k + 1 + i == k) = false := by simp; omega
        simp [hne]
    | succ m =>
      have hkj : (k == j) = false := by simp; omega
      have hr2 : ∀ i it', m < i → r[i]? = some it' → id ∈ it'.ups.map (·.1) → id ∈ it.ups.map (·.1) → S (k + 1 + i) = false := fun i it' hmi hi hd hd0 => by
        have := hn (i + 1) it' (by omega) (by simpa using hi) hd hd0
        rwa [show k + (i + 1) = k + 1 + i by omega] at this
      simp only [hkj, Bool.or_false]
      split
      · exact ih (k + 1) _ _ m (by simpa using hm) (by omega) hr2
      · exact ih (k + 1) _ _ m (by simpa using hm) (by omega) hr2
theorem tr_get {P : Program} {all : List Oper} : ∀ (its : List Item) (k : Nat) (σ : Sl) (β : Bx), Tr P all its σ β → ∀ (j : Nat) (it : Item), its[j]? = some it →
    StepSem P all (stateOf (fun i => decide (i < k + j)) its k σ β).1 (stateOf (fun i => decide (i < k + j)) its k σ β).2 it.o it.v it.ups it.rd := by
  intro its
  induction its with
  | nil => intro k σ β h j it hj; simp at hj
  | cons it0 r ih =>
    intro k σ β h j it hj
    cases j with
    | zero =>
      simp only [List.getElem?_cons_zero, Option.some.injEq] at hj
      subst hj
      rw [stateOf_none _ _ _ _ _ (fun i hi => by simp; omega)]
      exact h.1
    | succ j =>
      have := ih (k + 1) _ _ h.2 j it (by simpa using hj)
      rw [stateOf_cons, if_pos (by simp)]
      rwa [show k + (j + 1) = k + 1 + j by omega]
theorem stateOf_congr {S S' : Nat → Bool} : ∀ (its : List Item) (k : Nat) (σ : Sl) (β : Bx), (∀ i, i < its.length → S (k + i) = S' (k + i)) → stateOf S its k σ β = stateOf S' its k σ β
  | [], _, _, _, _ => rfl
  | it :: r, k, σ, β, h => by
    have h0 := h 0 (by simp)
    rw [Nat.add_zero] at h0
    have hr : ∀ i, i < r.length → S (k + 1 + i) = S' (k + 1 + i) := fun i hi => by
      have := h (i + 1) (by simpa using hi)
      rwa [show k + (i + 1) = k + 1 + i by omega] at this
    unfold stateOf
    rw [h0]
    split
    · exact stateOf_congr r _ _ _ hr
    · exact stateOf_congr r _ _ _ hr
theorem ancs_closed (S : Nat → Prop) : ∀ (rs : List Rec) (acc : List (List Nat)), (∀ k l, acc[k]? = some l → S k → ∀ x ∈ l, S x) → (∀ m r, rs[m]? = some r → S (acc.length + m) → ∀ x ∈ r.after, S x) →
    ∀ k l, (ancs rs acc)[k]? = some l → S k → ∀ x ∈ l, S x
  | [], acc, h1, _, k, l, hk, hS => h1 k l hk hS
  | r :: rs, acc, h1, h2, k, l, hk, hS => by
    refine ancs_closed S rs _ (fun k l hk hS => ?_) (fun m r' hm hS => ?_) k l hk hS
    · rw [List.getElem?_append] at hk
      split at hk
      · exact h1 k l hk hS
      · rename_i hge
        have hk0 : k = acc.length := by
          by_cases he : k - acc.length = 0
          · omega
          · rw [List.getElem?_cons] at hk
            rw [if_neg he] at hk
            simp at hk
        subst hk0
        simp only [Nat.sub_self, List.getElem?_cons_zero, Option.some.injEq] at hk
        subst hk
        have ha := h2 0 r rfl hS
        intro x hx
        have hx := (dd_mem hx).resolve_right (by simp)
        rw [List.mem_append] at hx
        rcases hx with hx | hx
        · exact ha x hx
        · rw [List.mem_flatMap] at hx
          obtain ⟨i, hi, hx⟩ := hx
          cases hai : acc[i]? with
          | none => rw [hai] at hx; simp at hx
          | some l' => rw [hai] at hx; exact h1 i l' hai (ha i hi) x hx
    · have := h2 (m + 1) r' (by simpa using hm)
      rw [List.length_append, List.length_singleton] at hS
      exact this (by rwa [show acc.length + (m + 1) = acc.length + 1 + m by omega])
theorem meets_iff {l m : List Nat} : meets l m = true ↔ ∃ x, x ∈ l ∧ x ∈ m := by
  unfold meets
  rw [List.any_eq_true]
  constructor
  · rintro ⟨x, hx, hy⟩
    rw [List.any_eq_true] at hy
    obtain ⟨y, hy, he⟩ := hy
    exact ⟨x, hx, by have := beq_iff_eq.1 he; subst this; exact hy⟩
  · rintro ⟨x, hx, hy⟩
    exact ⟨x, hx, List.any_eq_true.2 ⟨x, hy, by simp⟩⟩
end Go.Proofs.YtfplkakfakdfhaaDoor


/-
  The pure layer: a region that draws its order does what it does in the order of its text, if its operations that are not held in order stay out of one another's way. No condition on the program.
-/
namespace Go.Proofs.YtfplkakfakdfhaaDoor
set_option linter.unusedSimpArgs false
set_option linter.unusedVariables false
open Go.RowKit

def lst (listed : Array Bool) (i : Nat) : Bool := listed.getD i false
theorem lst_set {listed : Array Bool} {i : Nat} (hi : i < listed.size) (k : Nat) : lst (listed.setIfInBounds i true) k = (lst listed k || k == i) := by
  unfold lst
  rw [Array.getD_eq_getD_getElem?, Array.getD_eq_getD_getElem?]
  by_cases h : k = i
  · subst h; simp [hi]
  · rw [Array.getElem?_setIfInBounds_ne (Ne.symm h)]; simp [h]
theorem mem_ready {R : Array Oper} {listed : Array Bool} (hs : listed.size = R.size) {i : Nat} (h : i ∈ Region.ready .any R listed) :
    ∃ o, R[i]? = some o ∧ lst listed i = false ∧ ∀ e ∈ o.after, Region.binds .any e = true → lst listed e.on = true := by
  unfold Region.ready at h
  rw [List.mem_filter] at h
  obtain ⟨hir, hcond⟩ := h
  have hir := List.mem_range.1 hir
  rw [Array.getElem?_eq_getElem hir] at hcond
  simp only [Bool.and_eq_true, Bool.not_eq_true', Option.map_some, Option.getD_some] at hcond
  obtain ⟨hun, hafter⟩ := hcond
  rw [Array.all_eq_true_iff_forall_mem] at hafter
  refine ⟨R[i], Array.getElem?_eq_getElem hir, ?_, fun e hem hb => ?_⟩
  · unfold lst
    rw [Array.getD_eq_getD_getElem?] at hun ⊢
    rw [Array.getElem?_eq_getElem (by omega)] at hun ⊢
    exact hun
  · have h1 := hafter e hem
    simp only [hb, Bool.not_true, Bool.false_or] at h1
    exact h1
theorem ready_all {R : Array Oper} {listed : Array Bool} (hs : listed.size = R.size) (he : ∀ i o, R[i]? = some o → ∀ e ∈ o.after, Region.binds .any e = true → e.on < i) (hr : Region.ready .any R listed = []) : ∀ i, i < R.size → lst listed i = true := by
  intro i
  induction i using Nat.strongRecOn with
  | _ i ih =>
    intro hi
    rcases hb : lst listed i with _ | _
    · exfalso
      have hmem : i ∈ Region.ready .any R listed := by
        unfold Region.ready
        rw [List.mem_filter]
        refine ⟨List.mem_range.2 hi, ?_⟩
        have e1 : listed.getD i true = false := by
          unfold lst at hb
          rw [Array.getD_eq_getD_getElem?] at hb ⊢
          rw [Array.getElem?_eq_getElem (by omega)] at hb ⊢
          simpa using hb
        rw [Array.getElem?_eq_getElem hi]
        simp only [e1, Bool.not_false, Bool.true_and, Option.map_some, Option.getD_some]
        rw [Array.all_eq_true_iff_forall_mem]
        intro e hem
        rcases hbd : Region.binds .any e with _ | _
        · rfl
        · have h2 := he i _ (Array.getElem?_eq_getElem hi) e hem hbd
          simp only [Bool.not_true, Bool.false_or]
          exact ih e.on h2 (by omega)
      rw [hr] at hmem
      cases hmem
    · rfl
theorem any_inv {P : Program} {R : Array Oper} {Q : Exit → Act → World → Prop} (J : Array Bool → Act → World → Prop) (he : ∀ i o, R[i]? = some o → ∀ e ∈ o.after, Region.binds .any e = true → e.on < i)
    (hstep : ∀ listed i o a w, listed.size = R.size → R[i]? = some o → lst listed i = false → (∀ e ∈ o.after, Region.binds .any e = true → lst listed e.on = true) → J listed a w →
      ∀ K : Act → World → Prop, (∀ a' w', J (listed.setIfInBounds i true) a' w' → K a' w') → if Region.wanted o (yielded R a.tmps) = true then Oper.wp P o a w K Q else K (a.put o.dst undef) w)
    (hend : ∀ listed a w, listed.size = R.size → (∀ i, i < R.size → lst listed i = true) → J listed a w → Q .normal a w) :
    ∀ (fuel : Nat) (listed : Array Bool) (a : Act) (w : World), listed.size = R.size → (listed.toList.filter (!·)).length = fuel → J listed a w → wpAny P .any R Q fuel listed a w := by
  intro fuel
  induction fuel with
  | zero =>
    intro listed a w hs hc hJ
    have hall : ∀ i, i < R.size → lst listed i = true := by
      intro i hi
      have hnil := List.eq_nil_of_length_eq_zero hc
      rw [List.filter_eq_nil_iff] at hnil
      have := hnil (listed[i]'(by omega)) (by simp)
      unfold lst
      rw [Array.getD_eq_getD_getElem?, Array.getElem?_eq_getElem (by omega)]
      simpa using this
    refine ⟨?_, hend listed a w hs hall hJ⟩
    rw [List.eq_nil_iff_forall_not_mem]
    intro i hi
    obtain ⟨o, ho, hun, _⟩ := mem_ready hs hi
    have hlt : i < R.size := by
      rcases Nat.lt_or_ge i R.size with h | h
      · exact h
      · rw [Array.getElem?_eq_none h] at ho; cases ho
    rw [hall i hlt] at hun
    cases hun
  | succ fuel ih =>
    intro listed a w hs hc hJ
    refine ⟨fun hr => hend listed a w hs (ready_all hs he hr) hJ, fun i hi => ?_⟩
    obtain ⟨o, ho, hun, hafter⟩ := mem_ready hs hi
    have hlt : i < R.size := by
      rcases Nat.lt_or_ge i R.size with h | h
      · exact h
      · rw [Array.getElem?_eq_none h] at ho; cases ho
    have h1 := hstep listed i o a w hs ho hun hafter hJ (wpAny P .any R Q fuel (listed.setIfInBounds i true)) (fun a' w' hJ' => ?_)
    · unfold wpOp
      rw [ho]
      simp only
      split
      · rename_i hw; rw [if_pos hw] at h1; exact .inl h1
      · rename_i hw; rw [if_neg hw] at h1; exact h1
    · refine ih _ _ _ (by simpa using hs) ?_ hJ'
      have hil : i < listed.size := by omega
      have hunl : listed[i] = false := by
        unfold lst at hun
        rw [Array.getD_eq_getD_getElem?, Array.getElem?_eq_getElem hil] at hun
        simpa using hun
      have hset : (listed.setIfInBounds i true).toList = listed.toList.set i true := by simp
      rw [hset]
      have hgen : ∀ (l : List Bool) (k : Nat) (hk : k < l.length), l[k] = false → ((l.set k true).filter (!·)).length + 1 = (l.filter (!·)).length := by
        intro l
        induction l with
        | nil => intro k hk; simp at hk
        | cons b l ihl =>
          intro k hk hlk
          cases k with
          | zero =>
            simp only [List.getElem_cons_zero] at hlk
            subst hlk
            simp
          | succ k =>
            have := ihl k (by simpa using hk) (by simpa using hlk)
            cases b <;> simp [List.set_cons_succ] <;> omega
      have := hgen listed.toList i (by simpa using hil) (by simpa using hunl)
      omega

theorem okOrder_spec {rs : List Rec} (h : okOrder rs = true) {j : Nat} {b : Rec} (hb : rs[j]? = some b) :
    (∀ i ∈ b.after, i < j) ∧ ∃ aj, (ancs rs [])[j]? = some aj ∧ ∀ i a, i < j → rs[i]? = some a → i ∈ aj ∨ apart a b = true := by
  have hlt : j < rs.length := (List.getElem?_eq_some_iff.1 hb).1
  have h1 := List.all_eq_true.1 h j (List.mem_range.2 hlt)
  rw [hb] at h1
  cases ha : (ancs rs [])[j]? with
  | none => rw [ha] at h1; simp at h1
  | some aj =>
    rw [ha] at h1
    simp only [Bool.and_eq_true] at h1
    refine ⟨fun i hi => by simpa using List.all_eq_true.1 h1.1 i hi, aj, rfl, fun i a hij hia => ?_⟩
    have h2 := List.all_eq_true.1 h1.2 i (List.mem_range.2 hij)
    rw [hia] at h2
    simp only [Bool.or_eq_true] at h2
    rcases h2 with h2 | h2
    · obtain ⟨k, hk, he⟩ := List.any_eq_true.1 h2
      have := beq_iff_eq.1 he
      subst this
      exact .inl hk
    · exact .inr h2
theorem apart_spec {a b : Rec} (h : apart a b = true) : (∀ t, a.dst = some t → t ∉ b.ins) ∧ (∀ t, b.dst = some t → t ∉ a.ins) ∧ (∀ t, a.dst = some t → b.dst ≠ some t) ∧ (∀ x ∈ a.wr, x ∉ b.rd) ∧ (∀ x ∈ a.wr, x ∉ b.wr) ∧ (∀ x ∈ a.rd, x ∉ b.wr) := by
  have hm : ∀ l m, (!meets l m) = true → ∀ x ∈ l, x ∉ m := fun l m h x hx hy => by
    rw [meets_iff.2 ⟨x, hx, hy⟩] at h
    cases h
  unfold apart at h
  simp only [Bool.and_eq_true] at h
  obtain ⟨⟨⟨⟨⟨h1, h2⟩, h3⟩, h4⟩, h5⟩, h6⟩ := h
  refine ⟨fun t ht => hm _ _ h1 t (by simp [ht]), fun t ht => hm _ _ h2 t (by simp [ht]), fun t ht hb => hm _ _ h3 t (by simp [ht]) (by simp [hb]), hm _ _ h4, hm _ _ h5, hm _ _ h6⟩

theorem runD_sound {P : Program} (hmx : P.follows .mixedOrders = true) {all : List Oper} {C : Ctx} {Q : Exit → Act → World → Prop} {K : Sl → Bx → Prop} (hQ : ∀ σ β ρ I w a, K σ β → Mem C β ρ I w → Fr C σ β ρ I w a → Q .normal a w)
    {id : Nat} {σ : Sl} {β : Bx} {ρ : Nat → Value} {I : Nat → Prop} {w : World} {a : Act} (hd : dstsOk C.K C.N all = true) (h : runD P all all σ β [] K) (hm : Mem C β ρ I w) (hf : Fr C σ β ρ I w a) : (Code.region id all.toArray true).wp P Q a w := by
  obtain ⟨its, hits, htr, hord, hK⟩ := runD_items all σ β [] 0 h
  simp only [List.reverse_nil, List.nil_append] at hord
  have hget : ∀ i o, all.toArray[i]? = some o → ∃ it : Item, its[i]? = some it ∧ it.o = o := fun i o ho => by
    rw [List.getElem?_toArray, ← hits, List.getElem?_map] at ho
    cases hi : its[i]? with
    | none => rw [hi] at ho; simp at ho
    | some it => rw [hi] at ho; simp only [Option.map_some, Option.some.injEq] at ho; exact ⟨it, hi, ho⟩
  have hnote : ∀ i it, its[i]? = some it → (its.map (Item.note all))[i]? = some (Item.note all it) := fun i it hi => by rw [List.getElem?_map, hi]; rfl
  have hlen : its.length = all.toArray.size := by rw [← hits]; simp
  have hafter : ∀ (it : Item) (e : Edge), e ∈ it.o.after → Region.binds .any e = true → e.on ∈ (Item.note all it).after := fun it e he hb => by
    unfold Item.note mkRec
    simp only [List.mem_map, List.mem_filter]
    exact ⟨e, ⟨by simpa using he, hb⟩, rfl⟩
  have hafter2 : ∀ (it : Item) k, k ∈ (Item.note all it).after → ∃ e ∈ it.o.after, Region.binds .any e = true ∧ e.on = k := fun it k hk => by
    unfold Item.note mkRec at hk
    simp only [List.mem_map, List.mem_filter] at hk
    obtain ⟨e, ⟨he, hb⟩, rfl⟩ := hk
    exact ⟨e, by simpa using he, hb, rfl⟩
  refine wp_region_any hmx ?_
  refine any_inv (fun listed a' w' => (∀ i it, its[i]? = some it → lst listed i = true → ∀ k ∈ (Item.note all it).after, lst listed k = true) ∧
      ∃ ρ' I', Mem C (stateOf (lst listed) its 0 σ β).2 ρ' I' w' ∧ Fr C (stateOf (lst listed) its 0 σ β).1 (stateOf (lst listed) its 0 σ β).2 ρ' I' w' a') ?_ ?_ ?_ _ _ a _ (by simp) (by simp) ?_
  · intro i o ho e he hb
    obtain ⟨it, hi, rfl⟩ := hget i o ho
    exact (okOrder_spec hord (hnote i it hi)).1 _ (hafter it e he hb)
  · rintro listed j o a' w' hs ho hun haf ⟨hclo, ρ', I', hm', hf'⟩ K' hK'
    obtain ⟨it, hit, rfl⟩ := hget j o ho
    have hjl : j < listed.size := by rw [hs, ← hlen]; exact (List.getElem?_eq_some_iff.1 hit).1
    have hset : lst (listed.setIfInBounds j true) = fun i => lst listed i || i == j := funext fun k => lst_set hjl k
    -- what has run is closed, with j and without
    have hclo2 : ∀ i it', its[i]? = some it' → (lst listed i || i == j) = true → ∀ k ∈ (Item.note all it').after, (lst listed k || k == j) = true := by
      intro i it' hi hS k hk
      simp only [Bool.or_eq_true, beq_iff_eq] at hS ⊢
      rcases hS with hS | rfl
      · exact .inl (hclo i it' hi hS k hk)
      · rw [hit] at hi
        injection hi with hi
        subst hi
        obtain ⟨e, he, hb, rfl⟩ := hafter2 it k hk
        exact .inl (haf e he hb)
    obtain ⟨hlt, aj, haj, hpair⟩ := okOrder_spec hord (hnote j it hit)
    have hanc : ∀ x ∈ aj, (lst listed x || x == j) = true := fun x hx => by
      refine ancs_closed (fun i => (lst listed i || i == j) = true) (its.map (Item.note all)) [] (fun k l hk => by simp at hk) (fun m (r : Rec) hm hS x hx => ?_) j aj haj (by simp) x hx
      rw [List.getElem?_map] at hm
      cases hi : its[m]? with
      | none => rw [hi] at hm; simp at hm
      | some it' =>
        rw [hi] at hm
        simp only [Option.map_some, Option.some.injEq] at hm
        subst hm
        exact hclo2 m it' hi (by simpa using hS) x hx
    have hbefore : ∀ i it', i < j → its[i]? = some it' → lst listed i = false → apart (Item.note all it') (Item.note all it) = true := fun i it' hij hi hno => by
      rcases hpair i _ hij (hnote i it' hi) with h1 | h1
      · have := hanc i h1
        rw [hno] at this
        simp only [Bool.false_or, beq_iff_eq] at this
        omega
      · exact h1
    have hbehind : ∀ i it', j < i → its[i]? = some it' → lst listed i = true → apart (Item.note all it) (Item.note all it') = true := fun i it' hij hi hyes => by
      obtain ⟨_, ai, hai, hp⟩ := okOrder_spec hord (hnote i it' hi)
      rcases hp j _ hij (hnote j it hit) with h1 | h1
      · exfalso
        have := ancs_closed (fun i => lst listed i = true) (its.map (Item.note all)) [] (fun k l hk => by simp at hk) (fun m r hm hS x hx => by
          rw [List.getElem?_map] at hm
          cases hi : its[m]? with
          | none => rw [hi] at hm; simp at hm
          | some it' =>
            rw [hi] at hm
            simp only [Option.map_some, Option.some.injEq] at hm
            subst hm
            exact hclo m it' hi (by simpa using hS) x hx) i ai hai hyes j h1
        rw [hun] at this
        cases this
      · exact h1
    have hstep := tr_get its 0 σ β htr j it hit
    rw [Nat.zero_add] at hstep
    have hslot : ∀ t ∈ insOf all it.o, look t (stateOf (lst listed) its 0 σ β).1 = look t (stateOf (fun i => decide (i < j)) its 0 σ β).1 := fun t ht => by
      refine state_slot t _ _ its 0 σ σ β β (fun i it' hi hdst => ?_) rfl
      rw [Nat.zero_add]
      rcases Nat.lt_trichotomy i j with hij | rfl | hij
      · rw [decide_eq_true hij]
        rcases hb : lst listed i with _ | _
        · exact absurd ht ((apart_spec (hbefore i it' hij hi hb)).1 t hdst)
        · rfl
      · rw [hun]; simp
      · rw [decide_eq_false (by omega)]
        rcases hb : lst listed i with _ | _
        · rfl
        · exact absurd ht ((apart_spec (hbehind i it' hij hi hb)).2.1 t hdst)
    have hbox : Agreeing (stateOf (fun i => decide (i < j)) its 0 σ β).2 (stateOf (lst listed) its 0 σ β).2 (it.rd ++ it.ups.map (·.1)) := fun x hx => by
      refine state_box x _ _ its 0 σ σ β β (fun i it' hi hw => ?_) rfl
      rw [Nat.zero_add]
      rcases Nat.lt_trichotomy i j with hij | rfl | hij
      · rw [decide_eq_true hij]
        rcases hb : lst listed i with _ | _
        · have := apart_spec (hbefore i it' hij hi hb)
          rcases List.mem_append.1 hx with hx | hx
          · exact absurd hx (this.2.2.2.1 x hw)
          · exact absurd hx (this.2.2.2.2.1 x hw)
        · rfl
      · rw [hun]; simp
      · rw [decide_eq_false (by omega)]
        rcases hb : lst listed i with _ | _
        · rfl
        · have := apart_spec (hbehind i it' hij hi hb)
          rcases List.mem_append.1 hx with hx | hx
          · exact absurd hw (this.2.2.2.2.2 x hx)
          · exact absurd hw (this.2.2.2.2.1 x hx)
    refine step_ok hstep hbox hslot hm' hf' K' Q fun vv ρ2 I2 w2 h1 h2 h3 h4 => hK' _ _ ?_
    have hdN : ∀ t, it.o.dst = some t → C.K t = false ∧ t < C.N := fun t ht => by
      have hmem : it.o ∈ all := by rw [← hits]; exact List.mem_map.2 ⟨it, List.mem_of_getElem? hit, rfl⟩
      have := List.all_eq_true.1 hd it.o hmem
      rw [ht] at this
      simpa using this
    have hfr := hf'.put h2 hdN h3 h4
    have eσ : ∀ t, look t (stateOf (fun i => lst listed i || i == j) its 0 σ β).1 = look t (putS it.o.dst it.v (stateOf (lst listed) its 0 σ β).1) := fun t =>
      state_add_slot (lst listed) j t it hun its 0 σ β j hit (by omega) fun i it' hij hi hd1 hd2 => by
        rw [Nat.zero_add]
        rcases hb : lst listed i with _ | _
        · rfl
        · exact absurd hd1 ((apart_spec (hbehind i it' hij hi hb)).2.2.1 t hd2)
    have eβ : ∀ x, look x (stateOf (fun i => lst listed i || i == j) its 0 σ β).2 = look x (it.ups ++ (stateOf (lst listed) its 0 σ β).2) := fun x =>
      state_add_box (lst listed) j x it hun its 0 σ β j hit (by omega) fun i it' hij hi hd1 hd2 => by
        rw [Nat.zero_add]
        rcases hb : lst listed i with _ | _
        · rfl
        · exact absurd hd1 ((apart_spec (hbehind i it' hij hi hb)).2.2.2.2.1 x hd2)
    show (∀ i it', its[i]? = some it' → lst (listed.setIfInBounds j true) i = true → ∀ k ∈ (Item.note all it').after, lst (listed.setIfInBounds j true) k = true) ∧ _
    rw [hset]
    refine ⟨hclo2, ρ2, I2, h1.congr eβ, hfr.defers, hfr.size, hfr.keep, fun t v ht => ?_⟩
    rw [eσ t] at ht
    obtain ⟨k1, k2, k3⟩ := hfr.val t v ht
    exact ⟨k1, A.inB_mono (fun i hi => by unfold dom at *; rw [eβ i]; exact hi) v k2, k3⟩
  · rintro listed a' w' hs hall ⟨_, ρ', I', hm', hf'⟩
    have e : stateOf (lst listed) its 0 σ β = stateOf (fun _ => true) its 0 σ β := stateOf_congr its 0 σ β fun i hi => by
      rw [Nat.zero_add]
      exact hall i (by omega)
    rw [e] at hm' hf'
    exact hQ _ _ ρ' I' w' a' hK hm' hf'
  · have e : stateOf (lst (Array.replicate all.toArray.size false)) its 0 σ β = (σ, β) := stateOf_none _ _ _ _ _ fun i _ => by
      unfold lst
      rw [Array.getD_eq_getD_getElem?, Array.getElem?_replicate]
      split <;> rfl
    rw [e]
    refine ⟨fun i it _ h => ?_, ρ, I, hm.drewN _, hf.defers, hf.size, hf.keep, fun t v ht => ?_⟩
    · exfalso
      unfold lst at h
      rw [Array.getD_eq_getD_getElem?, Array.getElem?_replicate] at h
      split at h <;> simp at h
    · obtain ⟨k1, k2, k3⟩ := hf.val t v ht
      exact ⟨k1, k2, RepA.ext (β := β) (ρ := ρ) (I := I) (w := w) (w' := { w with drawn := w.drawn + 1 }) ⟨⟨fun _ h => h, fun _ _ => rfl⟩, fun _ _ => rfl⟩ v _ k2 k3⟩
end Go.Proofs.YtfplkakfakdfhaaDoor


/-
  The pure layer: a region that draws its order, in which operations read cells that all of its operations leave as they are. No condition on the program.
-/
namespace Go.Proofs.YtfplkakfakdfhaaDoor
set_option linter.unusedSimpArgs false
set_option linter.unusedVariables false
open Go.RowKit

def cellB (p : Nat × Nat) (β : Bx) : Option (TypeId × Nat × Option A) := match look p.1 β with
  | some (.var T cs) => some (T, cs.length, cs[p.2]?)
  | _ => none
def AgreeW (W : List (Nat × Nat)) (β γ : Bx) : Prop := ∀ p ∈ W, cellB p γ = cellB p β
/-- The operation does just so, wherever the boxes that it reads are as they are, and the cells W. -/
def DoesW (W : List (Nat × Nat)) (P : Program) (dst : Option Nat) (op : Op) (ty : TypeId) (e : Operand → A) (β : Bx) (v : A) (rd : List Nat) : Prop :=
  ∀ (C : Ctx) (γ : Bx), Agreeing β γ rd → AgreeW W β γ → ∀ (ρ : Nat → Value) (I : Nat → Prop) (w : World), Mem C γ ρ I w → ∀ a : Act,
    (∀ x ∈ op.operands.toList, (e x).inB γ ∧ RepA ρ I w (e x) (a.eval x)) → ∀ o : Oper, o.op = op → o.dst = dst → o.type = ty → ∀ (K : Act → World → Prop) (Q : Exit → Act → World → Prop),
      (∀ vv ρ' I' w', Mem C γ ρ' I' w' → Ext γ ρ I w ρ' I' w' → v.inB γ → RepA ρ' I' w' v vv → K (a.put dst vv) w') → Oper.wp P o a w K Q
def StepW (P : Program) (all : List Oper) (W : List (Nat × Nat)) (σ : Sl) (β : Bx) (o : Oper) (v : A) (ups : Bx) (rd : List Nat) : Prop :=
  StepSem P all σ β o v ups rd ∨ (o.guard = none ∧ ups = [] ∧ DoesW W P o.dst o.op o.type (ev σ) β v rd)
def runW (P : Program) (all : List Oper) (W : List (Nat × Nat)) : List Oper → Sl → Bx → List Rec → (Sl → Bx → Prop) → Prop
  | [], σ, β, rs, K => okOrder rs.reverse = true ∧ K σ β
  | o :: r, σ, β, rs, K => ∃ v ups rd, StepW P all W σ β o v ups rd ∧ AgreeW W β (ups ++ β) ∧ runW P all W r (putS o.dst v σ) (ups ++ β) (mkRec all o ups rd :: rs) K
def TrW (P : Program) (all : List Oper) (W : List (Nat × Nat)) : List Item → Sl → Bx → Prop
  | [], _, _ => True
  | it :: r, σ, β => StepW P all W σ β it.o it.v it.ups it.rd ∧ AgreeW W β (it.ups ++ β) ∧ TrW P all W r (putS it.o.dst it.v σ) (it.ups ++ β)
theorem runW_items {P : Program} {all : List Oper} {W : List (Nat × Nat)} {K : Sl → Bx → Prop} : ∀ (ops : List Oper) (σ : Sl) (β : Bx) (rs : List Rec) (k : Nat), runW P all W ops σ β rs K →
    ∃ its : List Item, its.map (·.o) = ops ∧ TrW P all W its σ β ∧ okOrder (rs.reverse ++ its.map (Item.note all)) = true ∧ K (stateOf (fun _ => true) its k σ β).1 (stateOf (fun _ => true) its k σ β).2
  | [], σ, β, rs, k, h => ⟨[], rfl, trivial, by simpa using h.1, h.2⟩
  | o :: r, σ, β, rs, k, ⟨v, ups, rd, hs, hw, h⟩ => by
    obtain ⟨its, h1, h2, h3, h4⟩ := runW_items r _ _ _ (k + 1) h
    refine ⟨⟨o, v, ups, rd⟩ :: its, by simp [h1], ⟨hs, hw, h2⟩, ?_, h4⟩
    simpa [Item.note] using h3
theorem cellB_app {p : Nat × Nat} {ups β β' : Bx} (h : cellB p β = cellB p β') (hw : cellB p (ups ++ β') = cellB p β') : cellB p (ups ++ β) = cellB p β' := by
  cases hu : look p.1 ups with
  | none =>
    have e : cellB p (ups ++ β) = cellB p β := by unfold cellB; rw [look_append, hu]; rfl
    rw [e, h]
  | some b =>
    have e : cellB p (ups ++ β) = cellB p (ups ++ β') := by unfold cellB; rw [look_append, look_append, hu]; rfl
    rw [e, hw]
theorem state_cell {P : Program} {all : List Oper} {W : List (Nat × Nat)} {p : Nat × Nat} (S : Nat → Bool) : ∀ (its : List Item) (k : Nat) (σ σ' : Sl) (β β' : Bx), TrW P all W its σ' β' → p ∈ W → cellB p β = cellB p β' → cellB p (stateOf S its k σ β).2 = cellB p β'
  | [], k, σ, σ', β, β', _, _, h => h
  | it :: r, k, σ, σ', β, β', ⟨_, hw, ht⟩, hp, h => by
    rw [stateOf_cons]
    have hw := hw p hp
    split
    · rw [state_cell S r _ _ _ _ _ ht hp ((cellB_app h hw).trans hw.symm)]
      exact hw
    · rw [state_cell S r _ _ _ _ _ ht hp (h.trans hw.symm)]
      exact hw
theorem trW_get {P : Program} {all : List Oper} {W : List (Nat × Nat)} : ∀ (its : List Item) (k : Nat) (σ : Sl) (β : Bx), TrW P all W its σ β → ∀ (j : Nat) (it : Item), its[j]? = some it →
    StepW P all W (stateOf (fun i => decide (i < k + j)) its k σ β).1 (stateOf (fun i => decide (i < k + j)) its k σ β).2 it.o it.v it.ups it.rd := by
  intro its
  induction its with
  | nil => intro k σ β h j it hj; simp at hj
  | cons it0 r ih =>
    intro k σ β h j it hj
    cases j with
    | zero =>
      simp only [List.getElem?_cons_zero, Option.some.injEq] at hj
      subst hj
      rw [stateOf_none _ _ _ _ _ (fun i hi => by simp; omega)]
      exact h.1
    | succ j =>
      have := ih (k + 1) _ _ h.2.2 j it (by simpa using hj)
      rw [stateOf_cons, if_pos (by simp)]
      rwa [show k + (j + 1) = k + 1 + j by omega]
theorem stepW_ok {P : Program} {all : List Oper} {W : List (Nat × Nat)} {σ τ : Sl} {β γ : Bx} {o : Oper} {v : A} {ups : Bx} {rd : List Nat} (h : StepW P all W σ β o v ups rd) {C : Ctx} (hag : Agreeing β γ (rd ++ ups.map (·.1))) (hw : AgreeW W β γ)
    (hτ : ∀ t ∈ insOf all o, look t τ = look t σ) {ρ : Nat → Value} {I : Nat → Prop} {w : World} {a : Act} (hm : Mem C γ ρ I w) (hf : Fr C τ γ ρ I w a) (K : Act → World → Prop) (Q : Exit → Act → World → Prop)
    (hK : ∀ vv ρ' I' w', Mem C (ups ++ γ) ρ' I' w' → Ext γ ρ I w ρ' I' w' → v.inB (ups ++ γ) → RepA ρ' I' w' v vv → K (a.put o.dst vv) w') :
    if Region.wanted o (yielded all.toArray a.tmps) = true then Oper.wp P o a w K Q else K (a.put o.dst undef) w := by
  rcases h with h | ⟨hno, rfl, h⟩
  · exact step_ok h hag hτ hm hf K Q hK
  · have hev : ∀ x ∈ o.op.operands.toList, ev τ x = ev σ x := ev_eq fun t ht => hτ t (by unfold insOf; exact List.mem_append_right _ ht)
    rw [if_pos (by simp [Region.wanted, hno])]
    exact h C γ (fun id hid => hag id (List.mem_append_left _ hid)) hw ρ I w hm a (fun x hx => by rw [← hev x hx]; exact hf.ev hm x) o rfl rfl rfl K Q hK
theorem runW_sound {P : Program} (hmx : P.follows .mixedOrders = true) {all : List Oper} {C : Ctx} {Q : Exit → Act → World → Prop} {K : Sl → Bx → Prop} (hQ : ∀ σ β ρ I w a, K σ β → Mem C β ρ I w → Fr C σ β ρ I w a → Q .normal a w)
    {id : Nat} {σ : Sl} {β : Bx} {ρ : Nat → Value} {I : Nat → Prop} {w : World} {a : Act} (hd : dstsOk C.K C.N all = true) {W : List (Nat × Nat)} (h : runW P all W all σ β [] K) (hm : Mem C β ρ I w) (hf : Fr C σ β ρ I w a) : (Code.region id all.toArray true).wp P Q a w := by
  obtain ⟨its, hits, htr, hord, hK⟩ := runW_items all σ β [] 0 h
  simp only [List.reverse_nil, List.nil_append] at hord
  have hget : ∀ i o, all.toArray[i]? = some o → ∃ it : Item, its[i]? = some it ∧ it.o = o := fun i o ho => by
    rw [List.getElem?_toArray, ← hits, List.getElem?_map] at ho
    cases hi : its[i]? with
    | none => rw [hi] at ho; simp at ho
    | some it => rw [hi] at ho; simp only [Option.map_some, Option.some.injEq] at ho; exact ⟨it, hi, ho⟩
  have hnote : ∀ i it, its[i]? = some it → (its.map (Item.note all))[i]? = some (Item.note all it) := fun i it hi => by rw [List.getElem?_map, hi]; rfl
  have hlen : its.length = all.toArray.size := by rw [← hits]; simp
  have hafter : ∀ (it : Item) (e : Edge), e ∈ it.o.after → Region.binds .any e = true → e.on ∈ (Item.note all it).after := fun it e he hb => by
    unfold Item.note mkRec
    simp only [List.mem_map, List.mem_filter]
    exact ⟨e, ⟨by simpa using he, hb⟩, rfl⟩
  have hafter2 : ∀ (it : Item) k, k ∈ (Item.note all it).after → ∃ e ∈ it.o.after, Region.binds .any e = true ∧ e.on = k := fun it k hk => by
    unfold Item.note mkRec at hk
    simp only [List.mem_map, List.mem_filter] at hk
    obtain ⟨e, ⟨he, hb⟩, rfl⟩ := hk
    exact ⟨e, by simpa using he, hb, rfl⟩
  refine wp_region_any hmx ?_
  refine any_inv (fun listed a' w' => (∀ i it, its[i]? = some it → lst listed i = true → ∀ k ∈ (Item.note all it).after, lst listed k = true) ∧
      ∃ ρ' I', Mem C (stateOf (lst listed) its 0 σ β).2 ρ' I' w' ∧ Fr C (stateOf (lst listed) its 0 σ β).1 (stateOf (lst listed) its 0 σ β).2 ρ' I' w' a') ?_ ?_ ?_ _ _ a _ (by simp) (by simp) ?_
  · intro i o ho e he hb
    obtain ⟨it, hi, rfl⟩ := hget i o ho
    exact (okOrder_spec hord (hnote i it hi)).1 _ (hafter it e he hb)
  · rintro listed j o a' w' hs ho hun haf ⟨hclo, ρ', I', hm', hf'⟩ K' hK'
    obtain ⟨it, hit, rfl⟩ := hget j o ho
    have hjl : j < listed.size := by rw [hs, ← hlen]; exact (List.getElem?_eq_some_iff.1 hit).1
    have hset : lst (listed.setIfInBounds j true) = fun i => lst listed i || i == j := funext fun k => lst_set hjl k
    -- what has run is closed, with j and without
    have hclo2 : ∀ i it', its[i]? = some it' → (lst listed i || i == j) = true → ∀ k ∈ (Item.note all it').after, (lst listed k || k == j) = true := by
      intro i it' hi hS k hk
      simp only [Bool.or_eq_true, beq_iff_eq] at hS ⊢
      rcases hS with hS | rfl
      · exact .inl (hclo i it' hi hS k hk)
      · rw [hit] at hi
        injection hi with hi
        subst hi
        obtain ⟨e, he, hb, rfl⟩ := hafter2 it k hk
        exact .inl (haf e he hb)
    obtain ⟨hlt, aj, haj, hpair⟩ := okOrder_spec hord (hnote j it hit)
    have hanc : ∀ x ∈ aj, (lst listed x || x == j) = true := fun x hx => by
      refine ancs_closed (fun i => (lst listed i || i == j) = true) (its.map (Item.note all)) [] (fun k l hk => by simp at hk) (fun m (r : Rec) hm hS x hx => ?_) j aj haj (by simp) x hx
      rw [List.getElem?_map] at hm
      cases hi : its[m]? with
      | none => rw [hi] at hm; simp at hm
      | some it' =>
        rw [hi] at hm
        simp only [Option.map_some, Option.some.injEq] at hm
        subst hm
        exact hclo2 m it' hi (by simpa using hS) x hx
    have hbefore : ∀ i it', i < j → its[i]? = some it' → lst listed i = false → apart (Item.note all it') (Item.note all it) = true := fun i it' hij hi hno => by
      rcases hpair i _ hij (hnote i it' hi) with h1 | h1
      · have := hanc i h1
        rw [hno] at this
        simp only [Bool.false_or, beq_iff_eq] at this
        omega
      · exact h1
    have hbehind : ∀ i it', j < i → its[i]? = some it' → lst listed i = true → apart (Item.note all it) (Item.note all it') = true := fun i it' hij hi hyes => by
      obtain ⟨_, ai, hai, hp⟩ := okOrder_spec hord (hnote i it' hi)
      rcases hp j _ hij (hnote j it hit) with h1 | h1
      · exfalso
        have := ancs_closed (fun i => lst listed i = true) (its.map (Item.note all)) [] (fun k l hk => by simp at hk) (fun m r hm hS x hx => by
          rw [List.getElem?_map] at hm
          cases hi : its[m]? with
          | none => rw [hi] at hm; simp at hm
          | some it' =>
            rw [hi] at hm
            simp only [Option.map_some, Option.some.injEq] at hm
            subst hm
            exact hclo m it' hi (by simpa using hS) x hx) i ai hai hyes j h1
        rw [hun] at this
        cases this
      · exact h1
    have hstep := trW_get its 0 σ β htr j it hit
    rw [Nat.zero_add] at hstep
    have hslot : ∀ t ∈ insOf all it.o, look t (stateOf (lst listed) its 0 σ β).1 = look t (stateOf (fun i => decide (i < j)) its 0 σ β).1 := fun t ht => by
      refine state_slot t _ _ its 0 σ σ β β (fun i it' hi hdst => ?_) rfl
      rw [Nat.zero_add]
      rcases Nat.lt_trichotomy i j with hij | rfl | hij
      · rw [decide_eq_true hij]
        rcases hb : lst listed i with _ | _
        · exact absurd ht ((apart_spec (hbefore i it' hij hi hb)).1 t hdst)
        · rfl
      · rw [hun]; simp
      · rw [decide_eq_false (by omega)]
        rcases hb : lst listed i with _ | _
        · rfl
        · exact absurd ht ((apart_spec (hbehind i it' hij hi hb)).2.1 t hdst)
    have hbox : Agreeing (stateOf (fun i => decide (i < j)) its 0 σ β).2 (stateOf (lst listed) its 0 σ β).2 (it.rd ++ it.ups.map (·.1)) := fun x hx => by
      refine state_box x _ _ its 0 σ σ β β (fun i it' hi hw => ?_) rfl
      rw [Nat.zero_add]
      rcases Nat.lt_trichotomy i j with hij | rfl | hij
      · rw [decide_eq_true hij]
        rcases hb : lst listed i with _ | _
        · have := apart_spec (hbefore i it' hij hi hb)
          rcases List.mem_append.1 hx with hx | hx
          · exact absurd hx (this.2.2.2.1 x hw)
          · exact absurd hx (this.2.2.2.2.1 x hw)
        · rfl
      · rw [hun]; simp
      · rw [decide_eq_false (by omega)]
        rcases hb : lst listed i with _ | _
        · rfl
        · have := apart_spec (hbehind i it' hij hi hb)
          rcases List.mem_append.1 hx with hx | hx
          · exact absurd hw (this.2.2.2.2.2 x hx)
          · exact absurd hw (this.2.2.2.2.1 x hx)
    have hcell : AgreeW W (stateOf (fun i => decide (i < j)) its 0 σ β).2 (stateOf (lst listed) its 0 σ β).2 := fun p hp => (state_cell (lst listed) its 0 σ σ β β htr hp rfl).trans (state_cell (fun i => decide (i < j)) its 0 σ σ β β htr hp rfl).symm
    refine stepW_ok hstep hbox hcell hslot hm' hf' K' Q fun vv ρ2 I2 w2 h1 h2 h3 h4 => hK' _ _ ?_
    have hdN : ∀ t, it.o.dst = some t → C.K t = false ∧ t < C.N := fun t ht => by
      have hmem : it.o ∈ all := by rw [← hits]; exact List.mem_map.2 ⟨it, List.mem_of_getElem? hit, rfl⟩
      have := List.all_eq_true.1 hd it.o hmem
      rw [ht] at this
      simpa using this
    have hfr := hf'.put h2 hdN h3 h4
    have eσ : ∀ t, look t (stateOf (fun i => lst listed i || i == j) its 0 σ β).1 = look t (putS it.o.dst it.v (stateOf (lst listed) its 0 σ β).1) := fun t =>
      state_add_slot (lst listed) j t it hun its 0 σ β j hit (by omega) fun i it' hij hi hd1 hd2 => by
        rw [Nat.zero_add]
        rcases hb : lst listed i with _ | _
        · rfl
        · exact absurd hd1 ((apart_spec (hbehind i it' hij hi hb)).2.2.1 t hd2)
    have eβ : ∀ x, look x (stateOf (fun i => lst listed i || i == j) its 0 σ β).2 = look x (it.ups ++ (stateOf (lst listed) its 0 σ β).2) := fun x =>
      state_add_box (lst listed) j x it hun its 0 σ β j hit (by omega) fun i it' hij hi hd1 hd2 => by
        rw [Nat.zero_add]
        rcases hb : lst listed i with _ | _
        · rfl
        · exact absurd hd1 ((apart_spec (hbehind i it' hij hi hb)).2.2.2.2.1 x hd2)
    show (∀ i it', its[i]? = some it' → lst (listed.setIfInBounds j true) i = true → ∀ k ∈ (Item.note all it').after, lst (listed.setIfInBounds j true) k = true) ∧ _
    rw [hset]
    refine ⟨hclo2, ρ2, I2, h1.congr eβ, hfr.defers, hfr.size, hfr.keep, fun t v ht => ?_⟩
    rw [eσ t] at ht
    obtain ⟨k1, k2, k3⟩ := hfr.val t v ht
    exact ⟨k1, A.inB_mono (fun i hi => by unfold dom at *; rw [eβ i]; exact hi) v k2, k3⟩
  · rintro listed a' w' hs hall ⟨_, ρ', I', hm', hf'⟩
    have e : stateOf (lst listed) its 0 σ β = stateOf (fun _ => true) its 0 σ β := stateOf_congr its 0 σ β fun i hi => by
      rw [Nat.zero_add]
      exact hall i (by omega)
    rw [e] at hm' hf'
    exact hQ _ _ ρ' I' w' a' hK hm' hf'
  · have e : stateOf (lst (Array.replicate all.toArray.size false)) its 0 σ β = (σ, β) := stateOf_none _ _ _ _ _ fun i _ => by
      unfold lst
      rw [Array.getD_eq_getD_getElem?, Array.getElem?_replicate]
      split <;> rfl
    rw [e]
    refine ⟨fun i it _ h => ?_, ρ, I, hm.drewN _, hf.defers, hf.size, hf.keep, fun t v ht => ?_⟩
    · exfalso
      unfold lst at h
      rw [Array.getD_eq_getD_getElem?, Array.getElem?_replicate] at h
      split at h <;> simp at h
    · obtain ⟨k1, k2, k3⟩ := hf.val t v ht
      exact ⟨k1, k2, RepA.ext (β := β) (ρ := ρ) (I := I) (w := w) (w' := { w with drawn := w.drawn + 1 }) ⟨⟨fun _ h => h, fun _ _ => rfl⟩, fun _ _ => rfl⟩ v _ k2 k3⟩
end Go.Proofs.YtfplkakfakdfhaaDoor


/-
  The pure layer: a body, its loops, a function's contract. No condition.
-/
namespace Go.Proofs.YtfplkakfakdfhaaDoor
set_option linter.unusedSimpArgs false
set_option linter.unusedVariables false
open Go.RowKit

mutual
def A.ren (π : Nat → Nat) : A → A
  | .d x => .d x
  | .ag cs => .ag (A.rens π cs)
  | .tu vs => .tu (A.rens π vs)
  | .pe sz es i off => .pe sz es i off
  | .px id off => .px (π id) off
  | .pr id sz k off => .pr (π id) sz k off
  | .ow id n => .ow (π id) n
  | .sx id n c => .sx (π id) n c
  | .ov id sz k n => .ov (π id) sz k n
  | .fs sz es => .fs sz es
  | .fn f a b => .fn f (A.rens π a) (A.rens π b)
  | .gd x v => .gd x (A.ren π v)
  | .un => .un
def A.rens (π : Nat → Nat) : List A → List A
  | [] => []
  | x :: r => A.ren π x :: A.rens π r
end
def Box.ren (π : Nat → Nat) : Box → Box
  | .var T cs => .var T (A.rens π cs)
  | .rel j X => .rel (π j) X
  | b => b
theorem one_ren (π : Nat → Nat) (v : A) : (v.ren π).one = v.one := by cases v <;> rfl
mutual
theorem RepA.ren {ρ : Nat → Value} {I : Nat → Prop} {w : World} (π : Nat → Nat) : ∀ (v : A) (x : Value), RepA ρ I w (v.ren π) x → RepA (fun i => ρ (π i)) I w v x
  | .d d, x, h => h
  | .ag cs, _, ⟨us, hx, hr⟩ => ⟨us, hx, RepAs.ren π true cs _ hr⟩
  | .tu cs, _, ⟨us, hx, hr⟩ => ⟨us, hx, RepAs.ren π false cs _ hr⟩
  | .pe sz es i off, _, h => h
  | .px id off, _, h => h
  | .pr id sz k off, _, h => h
  | .ow id n, _, h => h
  | .sx id n c, _, h => h
  | .ov id sz k n, _, h => h
  | .fs _ _, _, h => h
  | .fn f a b, _, ⟨us, vs, hx, h1, h2⟩ => ⟨us, vs, hx, RepAs.ren π false a _ h1, RepAs.ren π false b _ h2⟩
  | .gd x a, v, h => by
    unfold A.ren at h
    unfold RepA at h ⊢
    split at h
    · rename_i hx; rw [if_pos hx]; exact RepA.ren π a v h
    · rename_i hx; rw [if_neg hx]; exact h
  | .un, _, _ => trivial
theorem RepAs.ren {ρ : Nat → Value} {I : Nat → Prop} {w : World} (π : Nat → Nat) (o : Bool) : ∀ (ds : List A) (l : List Value), RepAs ρ I w o (A.rens π ds) l → RepAs (fun i => ρ (π i)) I w o ds l
  | [], _, h => h
  | d :: ds, _, ⟨u, us, hx, ho, hd, hr⟩ => ⟨u, us, hx, fun h => by rw [← one_ren π d]; exact ho h, RepA.ren π d u hd, RepAs.ren π o ds us hr⟩
end
/-- Whatever stands for u stands for v. -/
def SubA (u v : A) : Prop := ∀ (ρ : Nat → Value) (I : Nat → Prop) (w : World) (x : Value), RepA ρ I w u x → RepA ρ I w v x
theorem SubA.refl (u : A) : SubA u u := fun _ _ _ _ h => h
theorem SubA.of_eq {u v : A} (h : u = v) : SubA u v := h ▸ SubA.refl u
def SubD (u v : D) : Prop := ∀ (I : Nat → Prop) (w : World) (x : Value), RepD I w u x → RepD I w v x
theorem SubD.refl (u : D) : SubD u u := fun _ _ _ h => h
theorem SubD.of_eq {u v : D} (h : u = v) : SubD u v := h ▸ SubD.refl u
theorem SubD.nil (sz : Nat) : SubD .nl (.sl sz []) := fun I w x h => ⟨none, 0, [], h, Nat.le_refl _, rfl, fun h => absurd h (by simp)⟩
theorem SubA.d {u v : D} (h : SubD u v) : SubA (.d u) (.d v) := fun _ I w x hx => h I w x hx
def SubDs : List D → List D → Prop
  | [], l => l = []
  | x :: xs, l => ∃ y ys, l = y :: ys ∧ SubD x y ∧ (x.one = true → y.one = true) ∧ SubDs xs ys
theorem SubDs.rep {o : Bool} {I : Nat → Prop} {w : World} : ∀ {xs ys : List D} {l : List Value}, SubDs xs ys → RepC I w o xs l → RepC I w o ys l
  | [], ys, l, h, hr => by cases h; exact hr
  | x :: xs, _, _, ⟨y, ys, rfl, h1, h2, h3⟩, ⟨u, us, hl, ho, hd, hr⟩ => ⟨u, us, hl, fun h => h2 (ho h), h1 _ _ _ hd, SubDs.rep h3 hr⟩
theorem SubDs.refl : ∀ l : List D, SubDs l l
  | [] => rfl
  | x :: xs => ⟨x, xs, rfl, SubD.refl x, id, SubDs.refl xs⟩
theorem SubDs.nil : SubDs [] [] := rfl
theorem SubDs.cons {x y : D} {xs ys : List D} (h1 : SubD x y) (h2 : x.one = true → y.one = true) (h3 : SubDs xs ys) : SubDs (x :: xs) (y :: ys) := ⟨y, ys, rfl, h1, h2, h3⟩
theorem SubD.tu {xs ys : List D} (h : SubDs xs ys) : SubD (.tu xs) (.tu ys) := fun I w x ⟨us, h1, h2⟩ => ⟨us, h1, h.rep h2⟩
theorem SubD.ag {xs ys : List D} (h : SubDs xs ys) : SubD (.ag xs) (.ag ys) := fun I w x ⟨us, h1, h2⟩ => ⟨us, h1, h.rep h2⟩
def keepS (π : Nat → Nat) (σ : Sl) : Sl → Prop
  | [] => True
  | (t, v) :: r => (∃ u, look t σ = some u ∧ SubA u (v.ren π)) ∧ keepS π σ r
def keepB (π : Nat → Nat) (β : Bx) : Bx → Prop
  | [] => True
  | (i, b) :: r => look (π i) β = some (b.ren π) ∧ keepB π β r
def onceB (π : Nat → Nat) : Bx → Bool
  | [] => true
  | (i, _) :: r => r.all (fun p => decide (π p.1 ≠ π i)) && onceB π r
def inBs (γ : Bx) : Sl → Prop
  | [] => True
  | (_, v) :: r => v.inB γ ∧ inBs γ r
def inBb (γ : Bx) : Bx → Prop
  | [] => True
  | (_, b) :: r => b.inB γ ∧ inBb γ r
theorem keepS_look {π : Nat → Nat} {σ : Sl} {t : Nat} {v : A} : ∀ {τ : Sl}, keepS π σ τ → look t τ = some v → ∃ u, look t σ = some u ∧ SubA u (v.ren π)
  | (k, u) :: r, h, hl => by
    rw [look_cons] at hl
    split at hl
    · rename_i hk; subst hk; simp only [Option.some.injEq] at hl; subst hl; exact h.1
    · exact keepS_look h.2 hl
theorem keepB_look {π : Nat → Nat} {β : Bx} {i : Nat} {b : Box} : ∀ {γ : Bx}, keepB π β γ → look i γ = some b → look (π i) β = some (b.ren π)
  | (k, u) :: r, h, hl => by
    rw [look_cons] at hl
    split at hl
    · rename_i hk; subst hk; simp only [Option.some.injEq] at hl; subst hl; exact h.1
    · exact keepB_look h.2 hl
theorem inBs_look {γ : Bx} {t : Nat} {v : A} : ∀ {τ : Sl}, inBs γ τ → look t τ = some v → v.inB γ
  | (k, u) :: r, h, hl => by
    rw [look_cons] at hl
    split at hl
    · simp only [Option.some.injEq] at hl; subst hl; exact h.1
    · exact inBs_look h.2 hl
theorem inBb_look {γ : Bx} {i : Nat} {b : Box} : ∀ {δ : Bx}, inBb γ δ → look i δ = some b → b.inB γ
  | (k, u) :: r, h, hl => by
    rw [look_cons] at hl
    split at hl
    · simp only [Option.some.injEq] at hl; subst hl; exact h.1
    · exact inBb_look h.2 hl
theorem look_mem {α : Type} {i : Nat} {b : α} : ∀ {l : List (Nat × α)}, look i l = some b → (i, b) ∈ l
  | (k, u) :: r, hl => by
    rw [look_cons] at hl
    split at hl
    · rename_i hk; subst hk; simp only [Option.some.injEq] at hl; subst hl; simp
    · exact List.mem_cons_of_mem _ (look_mem hl)
theorem onceB_inj {π : Nat → Nat} : ∀ {γ : Bx}, onceB π γ = true → ∀ {i j : Nat} {b b' : Box}, (i, b) ∈ γ → (j, b') ∈ γ → π i = π j → i = j
  | (k, u) :: r, h, i, j, b, b', hi, hj, e => by
    simp only [onceB, Bool.and_eq_true] at h
    have hn : ∀ p ∈ r, π p.1 ≠ π k := fun p hp => by simpa using List.all_eq_true.1 h.1 p hp
    rcases List.mem_cons.1 hi with hi1 | hi1
    · injection hi1 with h1 _
      subst h1
      rcases List.mem_cons.1 hj with hj1 | hj1
      · injection hj1 with h2 _; exact h2.symm
      · exact absurd e.symm (hn (j, b') hj1)
    · rcases List.mem_cons.1 hj with hj1 | hj1
      · injection hj1 with h2 _
        subst h2
        exact absurd e (hn (i, b) hi1)
      · exact onceB_inj h.2 hi1 hj1 e
def renOf (l : List (Nat × Nat)) (i : Nat) : Nat := (look i l).getD i
structure St where
  σ : Sl
  β : Bx
/-- The state s' is s, but for what is forgotten and for other numbers of boxes. -/
structure Forget (l : List (Nat × Nat)) (s s' : St) : Prop where
  slots : keepS (renOf l) s.σ s'.σ
  boxes : keepB (renOf l) s.β s'.β
  once : onceB (renOf l) s'.β = true
  inS : inBs s'.β s'.σ
  inB : inBb s'.β s'.β
theorem has_ren (π : Nat → Nat) (b : Box) {w : World} {v : Value} {g : Nat} (h : b.has w v g) : (b.ren π).has w v g := by cases b <;> exact h
theorem BoxRep.ren {ρ : Nat → Value} {I : Nat → Prop} {w : World} {π : Nat → Nat} {i : Nat} {b : Box} (h : BoxRep ρ I w (π i) (b.ren π)) : BoxRep (fun i => ρ (π i)) I w i b := by
  cases b with
  | var T cs => obtain ⟨g, us, h1, h2, h3⟩ := h; exact ⟨g, us, h1, h2, RepAs.ren π true cs _ h3⟩
  | row e sz es => exact h
  | frz sz es => exact h
  | itr s pos => exact h
  | rel j X => exact h
  | dead => trivial
  | res X => exact h
theorem Forget.mem {l : List (Nat × Nat)} {s s' : St} (h : Forget l s s') {C : Ctx} {ρ : Nat → Value} {I : Nat → Prop} {w : World} (hm : Mem C s.β ρ I w) : Mem C s'.β (fun i => ρ (renOf l i)) I w where
  os := hm.os
  tape := hm.tape
  output := hm.output
  size := hm.size
  frame := hm.frame
  imm := hm.imm
  new := hm.new
  box := fun id b hb => BoxRep.ren (hm.box _ _ (keepB_look h.boxes hb))
  own := fun id b g hb hg => hm.own _ _ g (keepB_look h.boxes hb) (has_ren _ _ hg)
  inj := fun i j b b' g hb hb' hg hg' => onceB_inj h.once (look_mem hb) (look_mem hb') (hm.inj _ _ _ _ g (keepB_look h.boxes hb) (keepB_look h.boxes hb') (has_ren _ _ hg) (has_ren _ _ hg'))
  clo := fun id b hb => inBb_look h.inB hb
  gl := hm.gl
theorem Forget.fr {l : List (Nat × Nat)} {s s' : St} (h : Forget l s s') {C : Ctx} {ρ : Nat → Value} {I : Nat → Prop} {w : World} {a : Act} (hf : Fr C s.σ s.β ρ I w a) : Fr C s'.σ s'.β (fun i => ρ (renOf l i)) I w a :=
  ⟨hf.defers, hf.size, hf.keep, fun t v ht => by
    obtain ⟨u, hu, hs⟩ := keepS_look h.slots ht
    obtain ⟨h1, _, h3⟩ := hf.val t _ hu
    exact ⟨h1, inBs_look h.inS ht, RepA.ren _ v _ (hs _ _ _ _ h3)⟩⟩

/-- The state s stands for this frame and this world. -/
def At (C : Ctx) (s : St) (a : Act) (w : World) : Prop := ∃ ρ I, Mem C s.β ρ I w ∧ Fr C s.σ s.β ρ I w a
theorem At.forget {C : Ctx} {s s' : St} {a : Act} {w : World} {l : List (Nat × Nat)} (h : At C s a w) (hf : Forget l s s') : At C s' a w := by
  obtain ⟨ρ, I, h1, h2⟩ := h
  exact ⟨_, I, hf.mem h1, hf.fr h2⟩
/-- Whatever s stands for, s' stands for. -/
def Ent (s s' : St) : Prop := ∀ (C : Ctx) (a : Act) (w : World), At C s a w → At C s' a w
theorem Ent.refl (s : St) : Ent s s := fun _ _ _ h => h
theorem Ent.trans {s s' s2 : St} (h : Ent s s') (h2 : Ent s' s2) : Ent s s2 := fun C a w ha => h2 C a w (h C a w ha)
theorem Ent.of_forget {s s' : St} (l : List (Nat × Nat)) (h : Forget l s s') : Ent s s' := fun _ _ _ ha => ha.forget h
def afterE (K : St → Prop) (Q : Exit → St → Prop) : Exit → St → Prop
  | .normal, s => K s
  | e, s => Q e s
def blockE (id : Nat) (Q : Exit → St → Prop) : Exit → St → Prop
  | .exit i, s => if i = id then Q .normal s else Q (.exit i) s
  | e, s => Q e s
def lift (C : Ctx) (Q : Exit → St → Prop) : Exit → Act → World → Prop := fun e a w => ∃ s, Q e s ∧ At C s a w
def codeOk (K : Nat → Bool) (N : Nat) : Code → Bool
  | .region _ ops _ => dstsOk K N ops.toList
  | .seq a b => codeOk K N a && codeOk K N b
  | .cond _ a b => codeOk K N a && codeOk K N b
  | .block _ c => codeOk K N c
  | .loop c => codeOk K N c
  | .scope c => codeOk K N c
  | _ => true
def jumpE (l : Nat) (K : St → Prop) (Q : Exit → St → Prop) : Exit → St → Prop
  | .goto l', s => l' = l ∧ K s
  | e, s => Q e s
def SemWP (P : Program) (c : Code) (Q : Exit → St → Prop) (s : St) : Prop := ∀ (C : Ctx) (a : Act) (w : World), codeOk C.K C.N c = true → At C s a w → c.wp P (lift C Q) a w
/-- What must hold of a state for a body to end well. -/
def AW (P : Program) : Code → (Exit → St → Prop) → St → Prop
  | .skip, Q, s => Q .normal s
  | .region id ops false, Q, s => (runP P ops.toList ops.toList s.σ s.β fun σ β => Q .normal ⟨σ, β⟩) ∨ SemWP P (.region id ops false) Q s
  | .region id ops true, Q, s => (runD P ops.toList ops.toList s.σ s.β [] (fun σ β => Q .normal ⟨σ, β⟩) ∨ ∃ W, runW P ops.toList W ops.toList s.σ s.β [] fun σ β => Q .normal ⟨σ, β⟩) ∨ SemWP P (.region id ops true) Q s
  | .seq a b, Q, s => AW P a (afterE (AW P b Q) Q) s
  | .cond c a b, Q, s => ∃ x, ev s.σ c = .d (bD x) ∧ (x = true → AW P a Q s) ∧ (x = false → AW P b Q s)
  | .block id c, Q, s => AW P c (blockE id Q) s
  | .loop c, Q, s => ∃ I : Nat → St → Prop, (∃ n s1, Ent s s1 ∧ I n s1) ∧ ∀ n s1, I n s1 → AW P c (afterE (fun s2 => ∃ m s3, m < n ∧ Ent s2 s3 ∧ I m s3) Q) s1
  | .exit id, Q, s => Q (.exit id) s
  | .label _, Q, s => Q .normal s
  | .ret, Q, s => Q .ret s
  | .goto l, Q, s => Q (.goto l) s
  | .scope c, Q, s => ∃ (l : Nat) (rest : Code) (J : Nat → St → Prop), findLabel c l = some rest ∧ SemWP P c (jumpE l (fun s2 => ∃ m s3, Ent s2 s3 ∧ J m s3) Q) s ∧ ∀ n s1, J n s1 → SemWP P rest (jumpE l (fun s2 => ∃ m s3, m < n ∧ Ent s2 s3 ∧ J m s3) Q) s1
  | _, _, _ => False
theorem findLabel_ok {K : Nat → Bool} {N l : Nat} : ∀ {c rest : Code}, findLabel c l = some rest → codeOk K N c = true → codeOk K N rest = true := by
  intro c
  induction c with
  | seq a b iha ihb =>
    intro rest h hc
    simp only [codeOk, Bool.and_eq_true] at hc
    unfold findLabel at h
    split at h
    · rename_i r hr
      injection h with h; subst h
      simp only [codeOk, Bool.and_eq_true]
      exact ⟨iha hr hc.1, hc.2⟩
    · exact ihb h hc.2
  | label l' =>
    intro rest h hc
    unfold findLabel at h
    split at h
    · injection h with h; subst h; rfl
    · cases h
  | _ => intro rest h hc; unfold findLabel at h; cases h
theorem scope_sound {P : Program} {C : Ctx} {c rest : Code} (l : Nat) (J : Nat → St → Prop) {Q : Exit → St → Prop} {s : St} (hf : findLabel c l = some rest) (hc : codeOk C.K C.N c = true)
    (h1 : SemWP P c (jumpE l (fun s2 => ∃ m s3, Ent s2 s3 ∧ J m s3) Q) s) (h2 : ∀ n s1, J n s1 → SemWP P rest (jumpE l (fun s2 => ∃ m s3, m < n ∧ Ent s2 s3 ∧ J m s3) Q) s1) {a : Act} {w : World} (ha : At C s a w) : (Code.scope c).wp P (lift C Q) a w := by
  refine wp_scope_jumps l (fun a w => ∃ n s, J n s ∧ At C s a w) (fun a w => leastOf fun n => ∃ s, J n s ∧ At C s a w) hf ?_ ?_
  · refine wp_mono (h1 C a w hc ha) fun e a' w' hq => ?_
    obtain ⟨s', hq, ha'⟩ := hq
    cases e with
    | goto l' =>
      obtain ⟨rfl, m, s3, he, hJ⟩ := hq
      exact ⟨rfl, m, s3, hJ, he _ _ _ ha'⟩
    | _ => exact ⟨s', hq, ha'⟩
  · intro a w hJ
    obtain ⟨⟨s1, hJ1, ha1⟩, _⟩ := leastOf_spec hJ
    refine wp_mono (h2 _ s1 hJ1 C a w (findLabel_ok hf hc) ha1) fun e a' w' hq => ?_
    obtain ⟨s', hq, ha'⟩ := hq
    cases e with
    | goto l' =>
      obtain ⟨rfl, m, s3, hlt, he, hJ'⟩ := hq
      have h3 : ∃ n, ∃ s, J n s ∧ At C s a' w' := ⟨m, s3, hJ', he _ _ _ ha'⟩
      exact ⟨rfl, h3, Nat.lt_of_le_of_lt ((leastOf_spec h3).2 m ⟨s3, hJ', he _ _ _ ha'⟩) hlt⟩
    | _ => exact ⟨s', hq, ha'⟩
theorem aw_sound {P : Program} (hmx : P.follows .mixedOrders = true) {C : Ctx} : ∀ (c : Code) (Q : Exit → St → Prop) (s : St) (a : Act) (w : World), codeOk C.K C.N c = true → AW P c Q s → At C s a w → c.wp P (lift C Q) a w
  | .skip, Q, s, a, w, _, h, ha => wp_skip ⟨s, h, ha⟩
  | .region id ops false, Q, s, a, w, hc, h, ha => by
    rcases h with h | h
    rotate_left
    · exact h C a w hc ha
    obtain ⟨ρ, I, hm, hf⟩ := ha
    refine wp_region_list ?_
    have := runP_sound (C := C) (Q := lift C Q) (fun σ β ρ I w a hk hm hf => ⟨⟨σ, β⟩, hk, ρ, I, hm, hf⟩) ops.toList s.σ s.β ρ I w a hc h hm hf
    simpa using this
  | .region id ops true, Q, s, a, w, hc, h, ha => by
    rcases h with h | h
    rotate_left
    · exact h C a w hc ha
    obtain ⟨ρ, I, hm, hf⟩ := ha
    rcases h with h | ⟨W, h⟩
    · have := runD_sound hmx (C := C) (Q := lift C Q) (id := id) (fun σ β ρ I w a hk hm hf => ⟨⟨σ, β⟩, hk, ρ, I, hm, hf⟩) hc h hm hf
      simpa using this
    · have := runW_sound hmx (C := C) (Q := lift C Q) (id := id) (fun σ β ρ I w a hk hm hf => ⟨⟨σ, β⟩, hk, ρ, I, hm, hf⟩) hc h hm hf
      simpa using this
  | .seq x y, Q, s, a, w, hc, h, ha => by
    simp only [codeOk, Bool.and_eq_true] at hc
    refine wp_seq ?_
    refine wp_mono (aw_sound hmx x _ s a w hc.1 h ha) fun e a' w' hq => ?_
    obtain ⟨s', hq, ha'⟩ := hq
    cases e with
    | normal => exact aw_sound hmx y Q s' a' w' hc.2 hq ha'
    | _ => exact ⟨s', hq, ha'⟩
  | .cond c x y, Q, s, a, w, hc, ⟨b, hb, h1, h2⟩, ha => by
    simp only [codeOk, Bool.and_eq_true] at hc
    obtain ⟨ρ, I, hm, hf⟩ := ha
    have hv := (hf.ev hm c).2
    rw [hb] at hv
    refine wp_cond (t := b) (repA_sc hv) ?_
    cases b with
    | true => exact aw_sound hmx x Q s a w hc.1 (h1 rfl) ⟨ρ, I, hm, hf⟩
    | false => exact aw_sound hmx y Q s a w hc.2 (h2 rfl) ⟨ρ, I, hm, hf⟩
  | .block id c, Q, s, a, w, hc, h, ha => by
    refine wp_block ?_
    refine wp_mono (aw_sound hmx c _ s a w hc h ha) fun e a' w' hq => ?_
    obtain ⟨s', hq, ha'⟩ := hq
    cases e with
    | exit i =>
      by_cases hi : i = id
      · simp only [blockE, hi, if_true] at hq
        simp only [Exit.inBlock, hi, if_true]
        exact ⟨s', hq, ha'⟩
      · simp only [blockE, if_neg hi] at hq
        simp only [Exit.inBlock, if_neg hi]
        exact ⟨s', hq, ha'⟩
    | _ => exact ⟨s', hq, ha'⟩
  | .loop c, Q, s, a, w, hc, ⟨I, ⟨n, s1, hfg, hI⟩, hr⟩, ha => by
    have hgen : ∀ n s1, I n s1 → ∀ a w, At C s1 a w → (Code.loop c).wp P (lift C Q) a w := by
      intro n0 s0 hI0 a0 w0 ha0
      refine wp_loop_ghost (fun m a w => ∃ s, I m s ∧ At C s a w) n0 ⟨s0, hI0, ha0⟩ fun m a w ⟨s, hI, ha⟩ => ?_
      refine wp_mono (aw_sound hmx c _ s a w hc (hr m s hI) ha) fun e a' w' hq => ?_
      obtain ⟨s', hq, ha'⟩ := hq
      cases e with
      | normal =>
        obtain ⟨m', s3, hlt, hfg', hI'⟩ := hq
        exact ⟨m', hlt, s3, hI', hfg' _ _ _ ha'⟩
      | _ => exact ⟨s', hq, ha'⟩
    exact hgen n s1 hI a w (hfg _ _ _ ha)
  | .exit id, Q, s, a, w, _, h, ha => wp_exit ⟨s, h, ha⟩
  | .label l, Q, s, a, w, _, h, ha => wp_label ⟨s, h, ha⟩
  | .ret, Q, s, a, w, _, h, ha => wp_ret ⟨s, h, ha⟩
  | .rangeFunc .., _, _, _, _, _, h, _ => h.elim
  | .scope c, Q, s, a, w, hc, ⟨l, rest, J, hf, h1, h2⟩, ha => scope_sound l J hf hc h1 h2 ha
  | .goto l, Q, s, a, w, _, h, ha => wp_goto ⟨s, h, ha⟩
  | .refuse .., _, _, _, _, _, h, _ => h.elim
theorem SemWP.mono {P : Program} {c : Code} {Q Q' : Exit → St → Prop} {s : St} (h : SemWP P c Q s) (hq : ∀ e s, Q e s → Q' e s) : SemWP P c Q' s := fun C a w hc ha => wp_mono (h C a w hc ha) fun e a w ⟨s, h1, h2⟩ => ⟨s, hq e s h1, h2⟩
end Go.Proofs.YtfplkakfakdfhaaDoor


/-
  The pure layer: what each operation does that turns no memory. No condition.
-/
namespace Go.Proofs.YtfplkakfakdfhaaDoor
set_option linter.unusedSimpArgs false
set_option linter.unusedVariables false
open Go.RowKit

inductive TyK where
  | bool
  | int (k : IntKind)
  | str
  | slice (e : TypeId)
  | struct (fs : List (Nat × Nat × Bool))
  | array (n : Nat) (e : TypeId) (esz : Nat) (erow : Bool)
  | other
structure TyI where
  size : Nat
  bytes : Nat
  row : Bool
  zero : List D
  kind : TyK
def rowT (P : Program) (T : TypeId) : Bool := match P.underlying T with
  | some d => d.isRow
  | none => true
def kindT (P : Program) : TypeDesc → TyK
  | .bool => .bool
  | .int k => .int k
  | .string => .str
  | .slice e => .slice e
  | .struct fs => .struct (fs.toList.map fun f => (f.offset, P.cellsOf f.type, rowT P f.type))
  | .array n e => .array n e (P.cellsOf e) (rowT P e)
  | _ => .other
def cellD : Value → D
  | .slice none 0 0 => .nl
  | v => .sc v
def mkTy (P : Program) (T : TypeId) : Option TyI := match P.info? T, P.underlying T with
  | some i, some d => match i.zero with
    | some z => if z.cells.all (·.oneCell') = true ∧ z.cells.size = i.size then some { size := i.size, bytes := i.bytes, row := d.isRow, zero := z.cells.toList.map cellD, kind := kindT P d } else none
    | none => none
  | _, _ => none
theorem mkTy_all {P : Program} {T : TypeId} {t : TyI} (h : mkTy P T = some t) : ∃ i d z, P.info? T = some i ∧ P.underlying T = some d ∧ i.zero = some z ∧ t.size = i.size ∧ t.bytes = i.bytes ∧ t.row = d.isRow ∧ t.zero = z.cells.toList.map cellD ∧ t.kind = kindT P d ∧ z.cells.all (·.oneCell') = true ∧ z.cells.size = i.size := by
  unfold mkTy at h
  split at h
  · rename_i i d hi hd
    split at h
    · rename_i z hz
      split at h
      · rename_i hc
        simp only [Option.some.injEq] at h
        subst h
        exact ⟨i, d, z, hi, hd, hz, rfl, rfl, rfl, rfl, rfl, hc.1, hc.2⟩
      · cases h
    · simp at h
  · simp at h
theorem mkTy_spec {P : Program} {T : TypeId} {t : TyI} (h : mkTy P T = some t) : ∃ i d z, P.info? T = some i ∧ P.underlying T = some d ∧ i.zero = some z ∧ t.size = i.size ∧ t.bytes = i.bytes ∧ t.row = d.isRow ∧ t.zero = z.cells.toList.map cellD ∧ t.kind = kindT P d := by
  obtain ⟨i, d, z, h1, h2, h3, h4, h5, h6, h7, h8, _⟩ := mkTy_all h
  exact ⟨i, d, z, h1, h2, h3, h4, h5, h6, h7, h8⟩
theorem kind_slice {P : Program} {d : TypeDesc} {e : TypeId} (h : kindT P d = .slice e) : d = .slice e := by cases d <;> simp_all [kindT]
theorem kind_int {P : Program} {d : TypeDesc} {k : IntKind} (h : kindT P d = .int k) : d = .int k := by cases d <;> simp_all [kindT]
theorem kind_bool {P : Program} {d : TypeDesc} (h : kindT P d = .bool) : d = .bool := by cases d <;> simp_all [kindT]
theorem kind_str {P : Program} {d : TypeDesc} (h : kindT P d = .str) : d = .string := by cases d <;> simp_all [kindT]
theorem kind_struct {P : Program} {d : TypeDesc} {fs : List (Nat × Nat × Bool)} (h : kindT P d = .struct fs) : ∃ gs, d = .struct gs ∧ fs = gs.toList.map fun f => (f.offset, P.cellsOf f.type, rowT P f.type) := by
  cases d <;> simp_all [kindT]
section
variable {P : Program} {dst : Option Nat} {op : Op} {ty : TypeId} {e : Operand → A} {β : Bx} {v : A} {rd : List Nat}
theorem Does.of_run (h : ∀ (C : Ctx) (γ : Bx), Agreeing β γ rd → ∀ (ρ : Nat → Value) (I : Nat → Prop) (w : World), Mem C γ ρ I w → ∀ a : Act,
    (∀ x ∈ op.operands.toList, (e x).inB γ ∧ RepA ρ I w (e x) (a.eval x)) → ∀ o : Oper, o.op = op → o.type = ty → ∃ vv, (execOp a.eval o).run P w = .ok (.value vv) w ∧ v.inB γ ∧ RepA ρ I w v vv) : Does P dst op ty e β v [] rd := by
  intro C γ hag ρ I w hm a hx o ho hd ht K Q hK
  obtain ⟨vv, hr, h1, h2⟩ := h C γ (by simpa using hag) ρ I w hm a hx o ho ht
  unfold Oper.wp
  rw [hr, Oper.upon_value, hd]
  exact hK vv ρ I w (by simpa using hm) (Ext.refl _ _ _ _) (by simpa using h1) h2
theorem does_move {x : Operand} (hv : e x = v) : Does P dst (.move x) ty e β v [] [] :=
  Does.of_run fun C γ _ ρ I w _ a hx o ho _ => by
    have := hx x (by simp [Op.operands])
    exact ⟨a.eval x, by simp [execOp, ho], by rw [← hv]; exact this.1, by rw [← hv]; exact this.2⟩
theorem does_assign {x : Operand} (hv : e x = v) : Does P dst (.assign x) ty e β v [] [] :=
  Does.of_run fun C γ _ ρ I w _ a hx o ho _ => by
    have := hx x (by simp [Op.operands])
    exact ⟨a.eval x, by simp [execOp, ho], by rw [← hv]; exact this.1, by rw [← hv]; exact this.2⟩
theorem pick_val {ρ : Nat → Value} {I : Nat → Prop} {w : World} {x : Bool} {v' : A} {p u : Value} (hg : gdOk x v') (hp : stripA v' = .d (.sc p)) (hx : x = true) (hr : RepA ρ I w v' u) : u = p ∧ p.oneCell' = true := by
  cases v' with
  | gd y v' =>
    have := repA_gd_t hr (hg hx)
    have hp : v' = .d (.sc p) := hp
    rw [hp] at this
    exact this
  | d d0 =>
    have hp : A.d d0 = A.d (.sc p) := hp
    injection hp with hp
    subst hp
    exact hr
  | _ => cases hp
theorem does_pick {c x y : Operand} {b : Bool} {p q : Value} (hc : e c = .d (bD b)) (hp : stripA (e x) = .d (.sc p)) (hq : stripA (e y) = .d (.sc q)) (gp : gdOk b (e x)) (gq : gdOk (!b) (e y)) : Does P dst (.pick c x y) ty e β (.d (.sc (if b = true then p else q))) [] [] :=
  Does.of_run fun C γ _ ρ I w _ a hx o ho _ => by
    have h1 := (hx c (by simp [Op.operands])).2
    have h2 := (hx x (by simp [Op.operands])).2
    have h3 := (hx y (by simp [Op.operands])).2
    rw [hc] at h1
    have h1 := repA_sc h1
    cases b with
    | true =>
      obtain ⟨e1, e2⟩ := pick_val gp hp rfl h2
      exact ⟨a.eval x, by simp [execOp, ho, h1, asBool, Sem.run_bind], trivial, e1, e2⟩
    | false =>
      obtain ⟨e1, e2⟩ := pick_val gq hq rfl h3
      exact ⟨a.eval y, by simp [execOp, ho, h1, asBool, Sem.run_bind], trivial, e1, e2⟩
theorem does_and {c x y : Operand} {b p : Bool} (hc : e c = .d (bD b)) (hp : stripA (e x) = .d (bD p)) (hq : e y = .d (bD false)) (gp : gdOk b (e x)) : Does P dst (.pick c x y) ty e β (.d (bD (b && p))) [] [] := by
  have := does_pick (P := P) (dst := dst) (ty := ty) (β := β) hc hp (by rw [hq]; rfl) gp (by rw [hq]; trivial)
  have e1 : (if b = true then Value.bool p else Value.bool false) = .bool (b && p) := by cases b <;> rfl
  rwa [e1] at this
theorem does_or {c x y : Operand} {b p : Bool} (hc : e c = .d (bD b)) (hp : e x = .d (bD true)) (hq : stripA (e y) = .d (bD p)) (gq : gdOk (!b) (e y)) : Does P dst (.pick c x y) ty e β (.d (bD (b || p))) [] [] := by
  have := does_pick (P := P) (dst := dst) (ty := ty) (β := β) hc (by rw [hp]; rfl) hq (by rw [hp]; trivial) gq
  have e1 : (if b = true then Value.bool true else Value.bool p) = .bool (b || p) := by cases b <;> rfl
  rwa [e1] at this
theorem does_pickF {c x y : Operand} {b : Bool} (hc : e c = .d (bD b)) (hb : b = false) (hy : e y = v) : Does P dst (.pick c x y) ty e β v [] [] :=
  Does.of_run fun C γ _ ρ I w _ a hx o ho _ => by
    have h1 := (hx c (by simp [Op.operands])).2
    have h3 := hx y (by simp [Op.operands])
    rw [hc] at h1
    have h1 := repA_sc h1
    subst hb
    rw [hy] at h3
    exact ⟨a.eval y, by simp [execOp, ho, h1, asBool, Sem.run_bind], h3.1, h3.2⟩
def bitV (op : BinOp) (k : IntKind) (x y : Int) : Int := match op with
  | .and => k.wrap (BitVec.ofInt k.bits x &&& BitVec.ofInt k.bits y).toNat
  | .or => k.wrap (BitVec.ofInt k.bits x ||| BitVec.ofInt k.bits y).toNat
  | .xor => k.wrap (BitVec.ofInt k.bits x ^^^ BitVec.ofInt k.bits y).toNat
  | _ => k.wrap (BitVec.ofInt k.bits x &&& ~~~ (BitVec.ofInt k.bits y)).toNat
/-- Two whole numbers of a kind: a condition, the value. -/
def intV (op : BinOp) (k : IntKind) (x y : Int) : Prop × Value := match op with
  | .add => (True, .int k (k.wrap (x + y)))
  | .sub => (True, .int k (k.wrap (x - y)))
  | .mul => (True, .int k (k.wrap (x * y)))
  | .quo => (y ≠ 0, .int k (k.wrap (x.tdiv y)))
  | .rem => (y ≠ 0, .int k (x.tmod y))
  | .and => (True, .int k (bitV .and k x y))
  | .or => (True, .int k (bitV .or k x y))
  | .xor => (True, .int k (bitV .xor k x y))
  | .andNot => (True, .int k (bitV .andNot k x y))
  | .shl => (0 ≤ y, .int k (k.wrap (x * 2 ^ (min y.toNat k.bits))))
  | .shr => (0 ≤ y, .int k (x.fdiv (2 ^ (min y.toNat k.bits))))
  | .eql => (True, .bool (x == y))
  | .neq => (True, .bool (x != y))
  | .lss => (True, .bool (decide (x < y)))
  | .leq => (True, .bool (decide (x ≤ y)))
  | .gtr => (True, .bool (decide (x > y)))
  | .geq => (True, .bool (decide (x ≥ y)))
theorem one_intV (op : BinOp) (k : IntKind) (x y : Int) : (intV op k x y).2.oneCell' = true := by cases op <;> rfl
theorem does_int {bo : BinOp} {T T' : TypeId} {x y : Operand} {k : IntKind} {m n : Int} (hx : e x = .d (.sc (.int k m))) (hy : e y = .d (.sc (.int k n))) (hs : (intV bo k m n).1) : Does P dst (.binOp bo T x y T') ty e β (.d (.sc (intV bo k m n).2)) [] [] :=
  Does.of_run fun C γ _ ρ I w _ a hops o ho _ => by
    have h1 := (hops x (by simp [Op.operands])).2
    have h2 := (hops y (by simp [Op.operands])).2
    rw [hx] at h1
    rw [hy] at h2
    have h1 := repA_sc h1
    have h2 := repA_sc h2
    refine ⟨(intV bo k m n).2, ?_, trivial, rfl, one_intV _ _ _ _⟩
    unfold execOp
    simp only [ho, h1, h2]
    cases bo <;> first
      | (simp [eqGuard, binOp, Op.intArith, Op.intBits, Op.intCmp, intV, Sem.run_bind, bitV]; done)
      | (have hs : n ≠ 0 := hs; simp [eqGuard, binOp, Op.intDiv, intV, Sem.run_bind, hs]; done)
      | (have hs : 0 ≤ n := hs; simp [eqGuard, binOp, Op.shift, intV, Sem.run_bind, show ¬ n < 0 by omega]; done)
/-- A shift: the second number may be of another kind. -/
theorem does_shift {bo : BinOp} {T T' : TypeId} {x y : Operand} {k k' : IntKind} {m n : Int} (hx : e x = .d (.sc (.int k m))) (hy : e y = .d (.sc (.int k' n))) (hb : bo = .shl ∨ bo = .shr) (hs : 0 ≤ n) : Does P dst (.binOp bo T x y T') ty e β (.d (.sc (intV bo k m n).2)) [] [] :=
  Does.of_run fun C γ _ ρ I w _ a hops o ho _ => by
    have h1 := (hops x (by simp [Op.operands])).2
    have h2 := (hops y (by simp [Op.operands])).2
    rw [hx] at h1
    rw [hy] at h2
    have h1 := repA_sc h1
    have h2 := repA_sc h2
    refine ⟨(intV bo k m n).2, ?_, trivial, rfl, one_intV _ _ _ _⟩
    unfold execOp
    simp only [ho, h1, h2]
    rcases hb with rfl | rfl <;> simp [eqGuard, binOp, Op.shift, intV, Sem.run_bind, show ¬ n < 0 by omega]
theorem wrap64_of {n : Int} (h : -9223372036854775808 ≤ n) (h2 : n ≤ 9223372036854775807) : IntKind.i64.wrap n = n := by
  unfold IntKind.wrap
  simp only [IntKind.bits, IntKind.signed]
  simp
  split <;> omega
theorem does_add {T T' : TypeId} {x y : Operand} {m n : Int} (hx : e x = .d (iD m)) (hy : e y = .d (iD n)) (h : -9223372036854775808 ≤ m + n) (h2 : m + n ≤ 9223372036854775807) : Does P dst (.binOp .add T x y T') ty e β (.d (iD (m + n))) [] [] := by
  have := does_int (P := P) (dst := dst) (ty := ty) (β := β) (bo := .add) (T := T) (T' := T') hx hy trivial
  unfold intV at this
  simp only [wrap64_of h h2] at this
  exact this
theorem does_sub {T T' : TypeId} {x y : Operand} {m n : Int} (hx : e x = .d (iD m)) (hy : e y = .d (iD n)) (h : -9223372036854775808 ≤ m - n) (h2 : m - n ≤ 9223372036854775807) : Does P dst (.binOp .sub T x y T') ty e β (.d (iD (m - n))) [] [] := by
  have := does_int (P := P) (dst := dst) (ty := ty) (β := β) (bo := .sub) (T := T) (T' := T') hx hy trivial
  unfold intV at this
  simp only [wrap64_of h h2] at this
  exact this
theorem does_mul {T T' : TypeId} {x y : Operand} {m n : Int} (hx : e x = .d (iD m)) (hy : e y = .d (iD n)) (h : -9223372036854775808 ≤ m * n) (h2 : m * n ≤ 9223372036854775807) : Does P dst (.binOp .mul T x y T') ty e β (.d (iD (m * n))) [] [] := by
  have := does_int (P := P) (dst := dst) (ty := ty) (β := β) (bo := .mul) (T := T) (T' := T') hx hy trivial
  unfold intV at this
  simp only [wrap64_of h h2] at this
  exact this
/-- A quotient of numbers that are not negative. -/
theorem does_quo {T T' : TypeId} {x y : Operand} {m n : Nat} (hx : e x = .d (iD m)) (hy : e y = .d (iD n)) (h : 0 < n) (h2 : m ≤ 9223372036854775807) : Does P dst (.binOp .quo T x y T') ty e β (.d (iD ((m / n : Nat) : Int))) [] [] := by
  have := does_int (P := P) (dst := dst) (ty := ty) (β := β) (bo := .quo) (T := T) (T' := T') hx hy (show (n : Int) ≠ 0 by omega)
  unfold intV at this
  have h3 : m / n ≤ m := Nat.div_le_self _ _
  have h5 : IntKind.i64.wrap ((m / n : Nat) : Int) = ((m / n : Nat) : Int) := by
    generalize m / n = q at *
    exact wrap64_of (by omega) (by omega)
  have h4 : (m : Int).tdiv n = ((m / n : Nat) : Int) := by rw [Int.tdiv_eq_ediv_of_nonneg (by omega)]; simp
  simp only [h4, h5] at this
  exact this
theorem does_rem {T T' : TypeId} {x y : Operand} {m n : Nat} (hx : e x = .d (iD m)) (hy : e y = .d (iD n)) (h : 0 < n) : Does P dst (.binOp .rem T x y T') ty e β (.d (iD ((m % n : Nat) : Int))) [] [] := by
  have := does_int (P := P) (dst := dst) (ty := ty) (β := β) (bo := .rem) (T := T) (T' := T') hx hy (show (n : Int) ≠ 0 by omega)
  unfold intV at this
  have h4 : (m : Int).tmod n = ((m % n : Nat) : Int) := by rw [Int.tmod_eq_emod_of_nonneg (by omega)]; simp
  simp only [h4] at this
  exact this
def strV (op : BinOp) (x y : ByteArray) : Option Value := match op with
  | .eql => some (.bool (x.toList == y.toList))
  | .neq => some (.bool (!(x.toList == y.toList)))
  | .lss => some (.bool (Op.bytesLess x.toList y.toList))
  | .leq => some (.bool (Op.bytesLess x.toList y.toList || x.toList == y.toList))
  | .gtr => some (.bool (!(Op.bytesLess x.toList y.toList || x.toList == y.toList)))
  | .geq => some (.bool (!(Op.bytesLess x.toList y.toList)))
  | _ => none
theorem does_str {bo : BinOp} {T T' : TypeId} {x y : Operand} {m n : ByteArray} {b : Value} (hx : e x = .d (strD m)) (hy : e y = .d (strD n)) (hs : strV bo m n = some b) : Does P dst (.binOp bo T x y T') ty e β (.d (.sc b)) [] [] :=
  Does.of_run fun C γ _ ρ I w _ a hops o ho _ => by
    have h1 := (hops x (by simp [Op.operands])).2
    have h2 := (hops y (by simp [Op.operands])).2
    rw [hx] at h1
    rw [hy] at h2
    have h1 := repA_sc h1
    have h2 := repA_sc h2
    refine ⟨b, ?_, trivial, rfl, ?_⟩
    · unfold execOp
      simp only [ho, h1, h2]
      cases bo <;> simp [strV] at hs <;> subst hs <;> simp [eqGuard, binOp, Op.stringOp, Sem.run_bind]
    · cases bo <;> simp [strV] at hs <;> subst hs <;> rfl
theorem does_cat {T T' : TypeId} {x y : Operand} {m n : ByteArray} (hx : e x = .d (strD m)) (hy : e y = .d (strD n)) (hs : m.size + n.size ≤ 9223372036854775807) : Does P dst (.binOp .add T x y T') ty e β (.d (strD (m ++ n))) [] [] :=
  Does.of_run fun C γ _ ρ I w _ a hops o ho _ => by
    have h1 := (hops x (by simp [Op.operands])).2
    have h2 := (hops y (by simp [Op.operands])).2
    rw [hx] at h1
    rw [hy] at h2
    have h1 := repA_sc h1
    have h2 := repA_sc h2
    refine ⟨.string (m ++ n), ?_, trivial, rfl, rfl⟩
    unfold execOp
    simp only [ho, h1, h2]
    have hc : ¬ (((m.size + n.size : Nat) : Int) > IntKind.i64.max) := by
      simp only [IntKind.max, IntKind.signed, IntKind.bits]
      simp
      omega
    simp only [eqGuard, binOp, Op.stringOp, Sem.run_bind, if_neg hc]
    simp
theorem run_equal_bool {T : TypeId} (h : P.underlying T = some .bool) (x y : Bool) (w : World) : (Op.equal T (.bool x) (.bool y)).run P w = .ok (x == y) w := by
  unfold Op.equal Op.maxDepth Op.equalIn
  simp [Sem.run_bind, run_underlying h]
theorem does_beq {bo : BinOp} {T T' : TypeId} {t : TyI} {x y : Operand} {m n : Bool} (ht : mkTy P T = some t) (hk : t.kind = .bool) (hx : e x = .d (bD m)) (hy : e y = .d (bD n)) (hb : bo = .eql) : Does P dst (.binOp bo T x y T') ty e β (.d (bD (m == n))) [] [] :=
  Does.of_run fun C γ _ ρ I w _ a hops o ho _ => by
    obtain ⟨i, d, z, _, hd, _, _, _, _, _, hkd⟩ := mkTy_spec ht
    have hd2 : P.underlying T = some .bool := by rw [hd, kind_bool (hkd.symm.trans hk)]
    have h1 := (hops x (by simp [Op.operands])).2
    have h2 := (hops y (by simp [Op.operands])).2
    rw [hx] at h1
    rw [hy] at h2
    have h1 := repA_sc h1
    have h2 := repA_sc h2
    subst hb
    refine ⟨.bool (m == n), ?_, trivial, rfl, rfl⟩
    unfold execOp
    simp only [ho, h1, h2]
    simp [eqGuard, binOp, Sem.run_bind, run_equal_bool hd2]
theorem does_bne {bo : BinOp} {T T' : TypeId} {t : TyI} {x y : Operand} {m n : Bool} (ht : mkTy P T = some t) (hk : t.kind = .bool) (hx : e x = .d (bD m)) (hy : e y = .d (bD n)) (hb : bo = .neq) : Does P dst (.binOp bo T x y T') ty e β (.d (bD (m != n))) [] [] :=
  Does.of_run fun C γ _ ρ I w _ a hops o ho _ => by
    obtain ⟨i, d, z, _, hd, _, _, _, _, _, hkd⟩ := mkTy_spec ht
    have hd2 : P.underlying T = some .bool := by rw [hd, kind_bool (hkd.symm.trans hk)]
    have h1 := (hops x (by simp [Op.operands])).2
    have h2 := (hops y (by simp [Op.operands])).2
    rw [hx] at h1
    rw [hy] at h2
    have h1 := repA_sc h1
    have h2 := repA_sc h2
    subst hb
    refine ⟨.bool (m != n), ?_, trivial, rfl, rfl⟩
    unfold execOp
    simp only [ho, h1, h2]
    simp [eqGuard, binOp, Sem.run_bind, run_equal_bool hd2, bne]
theorem does_not {T : TypeId} {x : Operand} {b : Bool} (hx : e x = .d (bD b)) : Does P dst (.unOp .not T x) ty e β (.d (bD (!b))) [] [] :=
  Does.of_run fun C γ _ ρ I w _ a hops o ho _ => by
    have h1 := (hops x (by simp [Op.operands])).2
    rw [hx] at h1
    have h1 := repA_sc h1
    refine ⟨.bool (!b), ?_, trivial, rfl, rfl⟩
    simp [execOp, ho, h1, Op.unary, Sem.run_bind]
theorem does_conv_int {S T : TypeId} {s t : TyI} {x : Operand} {k k' : IntKind} {n : Int} (hs : mkTy P S = some s) (ht : mkTy P T = some t) (hk : t.kind = .int k') (hx : e x = .d (.sc (.int k n))) : Does P dst (.convert S T x) ty e β (.d (.sc (.int k' (k'.wrap n)))) [] [] :=
  Does.of_run fun C γ _ ρ I w _ a hops o ho _ => by
    obtain ⟨i, d, z, _, hd, _, _, _, _, _, hkd⟩ := mkTy_spec ht
    obtain ⟨i', d', z', _, hd', _, _, _, _, _, hkd'⟩ := mkTy_spec hs
    have hd2 : P.underlying T = some (.int k') := by rw [hd, kind_int (hkd.symm.trans hk)]
    have h1 := (hops x (by simp [Op.operands])).2
    rw [hx] at h1
    have h1 := repA_sc h1
    refine ⟨.int k' (k'.wrap n), ?_, trivial, rfl, rfl⟩
    unfold execOp
    simp only [ho, h1]
    simp [convert, Sem.run_bind, run_underlying hd2, run_underlying hd', Conv.intToInt]
theorem repC_get {I : Nat → Prop} {w : World} {o : Bool} : ∀ {ds : List D} {l : List Value} {i : Nat} {d : D}, RepC I w o ds l → ds[i]? = some d → ∃ u, l[i]? = some u ∧ RepD I w d u ∧ (o = true → d.one = true)
  | d0 :: ds, _, 0, d, ⟨u, us, rfl, ho, hd, _⟩, h => by simp at h; subst h; exact ⟨u, rfl, hd, ho⟩
  | d0 :: ds, _, i + 1, d, ⟨u, us, rfl, ho, hd, hr⟩, h => by
    obtain ⟨x, h1, h2⟩ := repC_get hr (by simpa using h)
    exact ⟨x, by simpa using h1, h2⟩
theorem repC_len {I : Nat → Prop} {w : World} {o : Bool} : ∀ {ds : List D} {l : List Value}, RepC I w o ds l → l.length = ds.length
  | [], _, h => by cases h; rfl
  | d0 :: ds, _, ⟨u, us, rfl, ho, hd, hr⟩ => by simp [repC_len hr]
theorem does_extract {x : Operand} {vs : List D} {i : Nat} {d : D} (hx : e x = .d (.tu vs)) (hi : vs[i]? = some d) : Does P dst (.extract x i) ty e β (.d d) [] [] :=
  Does.of_run fun C γ _ ρ I w _ a hops o ho _ => by
    have h1 := (hops x (by simp [Op.operands])).2
    rw [hx] at h1
    obtain ⟨us, h1, h2⟩ := h1
    obtain ⟨u, h3, h4, _⟩ := repC_get h2 hi
    refine ⟨u, ?_, trivial, h4⟩
    have h3 : us[i]? = some u := by simpa using h3
    simp [execOp, ho, h1, Instr.extract, h3, Sem.run_bind]
end
end Go.Proofs.YtfplkakfakdfhaaDoor


/-
  The pure layer: what each operation does that reads or turns memory. No condition.
-/
namespace Go.Proofs.YtfplkakfakdfhaaDoor
set_option linter.unusedSimpArgs false
set_option linter.unusedVariables false
open Go.RowKit

theorem repD_one {I : Nat → Prop} {w : World} {d : D} {u : Value} (h : RepD I w d u) (h1 : d.one = true) : u.oneCell' = true := by
  cases d with
  | sc v => obtain ⟨rfl, h⟩ := h; exact h
  | nl => cases h; rfl
  | sl sz es => obtain ⟨ad, c, xs, rfl, _⟩ := h; rfl
  | ag cs => cases h1
  | tu vs => cases h1
theorem repA_one {ρ : Nat → Value} {I : Nat → Prop} {w : World} {v : A} {u : Value} (h : RepA ρ I w v u) (h1 : v.one = true) : u.oneCell' = true := by
  cases v with
  | d x => exact repD_one (d := x) h h1
  | pe sz es i off => obtain ⟨_, xs, g, o, _, rfl, _⟩ := h; rfl
  | px id off => obtain ⟨g, _, rfl⟩ := h; rfl
  | pr id sz k off => obtain ⟨g, n, c, _, _, rfl⟩ := h; rfl
  | ow id n => obtain ⟨_, ad, c, rfl, _⟩ := h; rfl
  | sx id n c => obtain ⟨g, _, rfl⟩ := h; rfl
  | ov id sz k n => obtain ⟨g, m, c, _, _, _, c2, rfl⟩ := h; rfl
  | fs sz es => obtain ⟨_, ad, rfl⟩ := h; rfl
  | fn f a b => obtain ⟨us, vs, rfl, _⟩ := h; rfl
  | _ => cases h1
theorem repAs_get {ρ : Nat → Value} {I : Nat → Prop} {w : World} {o : Bool} : ∀ {ds : List A} {l : List Value} {i : Nat} {d : A}, RepAs ρ I w o ds l → ds[i]? = some d → ∃ u, l[i]? = some u ∧ RepA ρ I w d u ∧ (o = true → d.one = true)
  | d0 :: ds, _, 0, d, ⟨u, us, rfl, ho, hd, _⟩, h => by simp at h; subst h; exact ⟨u, rfl, hd, ho⟩
  | d0 :: ds, _, i + 1, d, ⟨u, us, rfl, ho, hd, hr⟩, h => by
    obtain ⟨x, h1, h2⟩ := repAs_get hr (by simpa using h)
    exact ⟨x, by simpa using h1, h2⟩
theorem repAs_len {ρ : Nat → Value} {I : Nat → Prop} {w : World} {o : Bool} : ∀ {ds : List A} {l : List Value}, RepAs ρ I w o ds l → l.length = ds.length
  | [], _, h => by cases h; rfl
  | d0 :: ds, _, ⟨u, us, rfl, ho, hd, hr⟩ => by simp [repAs_len hr]
theorem repAs_drop {ρ : Nat → Value} {I : Nat → Prop} {w : World} {o : Bool} : ∀ {ds : List A} {l : List Value} (n : Nat), RepAs ρ I w o ds l → RepAs ρ I w o (ds.drop n) (l.drop n)
  | [], _, n, h => by cases h; simp [RepAs]
  | d0 :: ds, _, 0, h => h
  | d0 :: ds, _, n + 1, ⟨u, us, rfl, ho, hd, hr⟩ => repAs_drop n hr
theorem repAs_take {ρ : Nat → Value} {I : Nat → Prop} {w : World} {o : Bool} : ∀ {ds : List A} {l : List Value} (n : Nat), RepAs ρ I w o ds l → RepAs ρ I w o (ds.take n) (l.take n)
  | [], _, n, h => by cases h; simp [RepAs]
  | d0 :: ds, _, 0, h => rfl
  | d0 :: ds, _, n + 1, ⟨u, us, rfl, ho, hd, hr⟩ => ⟨u, us.take n, rfl, ho, hd, repAs_take n hr⟩
theorem repAs_append {ρ : Nat → Value} {I : Nat → Prop} {w : World} {o : Bool} : ∀ {ds es : List A} {l m : List Value}, RepAs ρ I w o ds l → RepAs ρ I w o es m → RepAs ρ I w o (ds ++ es) (l ++ m)
  | [], _, _, _, h, h2 => by cases h; exact h2
  | d0 :: ds, es, _, m, ⟨u, us, rfl, ho, hd, hr⟩, h2 => ⟨u, us ++ m, rfl, ho, hd, repAs_append hr h2⟩
theorem repC_drop {I : Nat → Prop} {w : World} {o : Bool} : ∀ {ds : List D} {l : List Value} (n : Nat), RepC I w o ds l → RepC I w o (ds.drop n) (l.drop n)
  | [], _, n, h => by cases h; simp [RepC]
  | d0 :: ds, _, 0, h => h
  | d0 :: ds, _, n + 1, ⟨u, us, rfl, ho, hd, hr⟩ => repC_drop n hr
theorem repC_take {I : Nat → Prop} {w : World} {o : Bool} : ∀ {ds : List D} {l : List Value} (n : Nat), RepC I w o ds l → RepC I w o (ds.take n) (l.take n)
  | [], _, n, h => by cases h; simp [RepC]
  | d0 :: ds, _, 0, h => rfl
  | d0 :: ds, _, n + 1, ⟨u, us, rfl, ho, hd, hr⟩ => ⟨u, us.take n, rfl, ho, hd, repC_take n hr⟩
theorem repC_append {I : Nat → Prop} {w : World} {o : Bool} : ∀ {ds es : List D} {l m : List Value}, RepC I w o ds l → RepC I w o es m → RepC I w o (ds ++ es) (l ++ m)
  | [], _, _, _, h, h2 => by cases h; exact h2
  | d0 :: ds, es, _, m, ⟨u, us, rfl, ho, hd, hr⟩, h2 => ⟨u, us ++ m, rfl, ho, hd, repC_append hr h2⟩
theorem repAs_of_C {ρ : Nat → Value} {I : Nat → Prop} {w : World} {o : Bool} : ∀ {ds : List D} {l : List Value}, RepC I w o ds l → RepAs ρ I w o (ds.map .d) l
  | [], _, h => h
  | d0 :: ds, _, ⟨u, us, hl, ho, hd, hr⟩ => ⟨u, us, hl, ho, hd, repAs_of_C hr⟩
theorem repC_of_As {ρ : Nat → Value} {I : Nat → Prop} {w : World} {o : Bool} : ∀ {ds : List D} {l : List Value}, RepAs ρ I w o (ds.map .d) l → RepC I w o ds l
  | [], _, h => h
  | d0 :: ds, _, ⟨u, us, hl, ho, hd, hr⟩ => ⟨u, us, hl, ho, hd, repC_of_As hr⟩
theorem repC_one {I : Nat → Prop} {w : World} : ∀ {ds : List D} {l : List Value}, RepC I w true ds l → ∀ u ∈ l, u.oneCell' = true
  | [], _, h, u, hu => by cases h; cases hu
  | d0 :: ds, _, ⟨u0, us, rfl, ho, hd, hr⟩, u, hu => by
    rcases List.mem_cons.1 hu with rfl | hu
    · exact repD_one hd (ho rfl)
    · exact repC_one hr u hu
theorem repAs_one {ρ : Nat → Value} {I : Nat → Prop} {w : World} : ∀ {ds : List A} {l : List Value}, RepAs ρ I w true ds l → ∀ u ∈ l, u.oneCell' = true
  | [], _, h, u, hu => by cases h; cases hu
  | d0 :: ds, _, ⟨u0, us, rfl, ho, hd, hr⟩, u, hu => by
    rcases List.mem_cons.1 hu with rfl | hu
    · exact repA_one hd (ho rfl)
    · exact repAs_one hr u hu
theorem repR_one {I : Nat → Prop} {w : World} {sz : Nat} : ∀ {es : List (List D)} {l : List Value}, RepR I w sz es l → ∀ u ∈ l, u.oneCell' = true
  | [], _, h, u, hu => by cases h; cases hu
  | e0 :: es, _, ⟨us, us', rfl, hl, hc, hr⟩, u, hu => by
    rcases List.mem_append.1 hu with hu | hu
    · exact repC_one hc u hu
    · exact repR_one hr u hu
theorem repR_len {I : Nat → Prop} {w : World} {sz : Nat} : ∀ {es : List (List D)} {l : List Value}, RepR I w sz es l → l.length = es.length * sz
  | [], _, h => by cases h; simp
  | e0 :: es, _, ⟨us, us', rfl, hl, hc, hr⟩ => by
    rw [List.length_append, repC_len hc, repR_len hr, hl, List.length_cons, Nat.add_mul]
    omega
theorem repR_get {I : Nat → Prop} {w : World} {sz : Nat} : ∀ {es : List (List D)} {l : List Value} {i : Nat} {e : List D}, RepR I w sz es l → es[i]? = some e → ∃ us, RepC I w true e us ∧ e.length = sz ∧ us.length = sz ∧ (l.drop (i * sz)).take sz = us
  | e0 :: es, _, 0, e, ⟨us, us', rfl, hl, hc, hr⟩, h => by
    simp only [List.getElem?_cons_zero, Option.some.injEq] at h
    subst h
    have hlen := repC_len hc
    refine ⟨us, hc, hl, by omega, ?_⟩
    rw [Nat.zero_mul, List.drop_zero, List.take_append_of_le_length (by omega), List.take_of_length_le (by omega)]
  | e0 :: es, _, i + 1, e, ⟨us, us', rfl, hl, hc, hr⟩, h => by
    obtain ⟨vs, h1, h2, h3, h4⟩ := repR_get hr (by simpa using h)
    refine ⟨vs, h1, h2, h3, ?_⟩
    have hlen := repC_len hc
    rw [← h4, Nat.add_mul, Nat.one_mul, List.drop_append, List.drop_eq_nil_of_le (by omega), List.nil_append, show i * sz + sz - us.length = i * sz by omega]
theorem repR_append {I : Nat → Prop} {w : World} {sz : Nat} : ∀ {es fs : List (List D)} {l m : List Value}, RepR I w sz es l → RepR I w sz fs m → RepR I w sz (es ++ fs) (l ++ m)
  | [], _, _, _, h, h2 => by cases h; exact h2
  | e0 :: es, fs, _, m, ⟨us, us', rfl, hl, hc, hr⟩, h2 => ⟨us, us' ++ m, by simp, hl, hc, repR_append hr h2⟩
theorem repR_drop {I : Nat → Prop} {w : World} {sz : Nat} : ∀ {es : List (List D)} {l : List Value} (n : Nat), RepR I w sz es l → RepR I w sz (es.drop n) (l.drop (n * sz))
  | [], _, n, h => by cases h; simp [RepR]
  | e0 :: es, _, 0, h => by simpa using h
  | e0 :: es, _, n + 1, ⟨us, us', rfl, hl, hc, hr⟩ => by
    have hlen := repC_len hc
    have := repR_drop n hr
    have hd : us.drop (n * sz + sz) = [] := List.drop_eq_nil_of_le (by have := Nat.le_add_left sz (n * sz); omega)
    rw [List.drop_succ_cons, Nat.add_mul, Nat.one_mul, List.drop_append, hd, List.nil_append, show n * sz + sz - us.length = n * sz by omega]
    exact this
theorem repR_take {I : Nat → Prop} {w : World} {sz : Nat} : ∀ {es : List (List D)} {l : List Value} (n : Nat), RepR I w sz es l → RepR I w sz (es.take n) (l.take (n * sz))
  | [], _, n, h => by cases h; simp [RepR]
  | e0 :: es, _, 0, h => by simp [RepR]
  | e0 :: es, _, n + 1, ⟨us, us', rfl, hl, hc, hr⟩ => by
    have hlen := repC_len hc
    refine ⟨us, us'.take (n * sz), ?_, hl, hc, repR_take n hr⟩
    rw [Nat.add_mul, Nat.one_mul, List.take_append, List.take_of_length_le (by omega), show n * sz + sz - us.length = n * sz by omega]
def allD : List A → Option (List D)
  | [] => some []
  | .d x :: r => match allD r with
    | some ds => some (x :: ds)
    | none => none
  | _ :: _ => none
theorem allD_map : ∀ {l : List A} {ds : List D}, allD l = some ds → l = ds.map .d
  | [], ds, h => by simp [allD] at h; subst h; rfl
  | .d x :: r, ds, h => by
    unfold allD at h
    split at h
    · rename_i ds' hr
      simp only [Option.some.injEq] at h
      subst h
      rw [allD_map hr]; rfl
    · cases h
  | .ag _ :: _, _, h => by cases h
  | .tu _ :: _, _, h => by cases h
  | .pe .. :: _, _, h => by cases h
  | .px .. :: _, _, h => by cases h
  | .pr .. :: _, _, h => by cases h
  | .ow .. :: _, _, h => by cases h
  | .fn .. :: _, _, h => by cases h
  | .gd .. :: _, _, h => by cases h
  | .un :: _, _, h => by cases h
theorem map_get {α β : Type} {f : α → β} {l : List α} {i : Nat} {g : α} (h : l[i]? = some g) : (l.map f)[i]? = some (f g) := by rw [List.getElem?_map, h]; rfl

/-! ### reading a variable -/
section
variable {P : Program}
theorem run_isAgg {T : TypeId} {d : TypeDesc} (h : P.underlying T = some d) (w : World) : (isAgg T).run P w = .ok d.isRow w := by
  unfold isAgg
  rw [Sem.run_bind, run_underlying h w]
  cases d <;> simp
theorem run_loadVar_one {T : TypeId} {t : TyI} (ht : mkTy P T = some t) (hr : t.row = false) {w : World} {p : Addr} {u : Value} (h : w.cell? p = some u) : (loadVar T p).run P w = .ok u w := by
  obtain ⟨i, d, z, _, hd, _, _, _, hrow, _⟩ := mkTy_spec ht
  rw [hr] at hrow
  simp [loadVar, Sem.run_bind, run_isAgg hd, ← hrow, h]
theorem run_loadVar_row' {T : TypeId} {t : TyI} (ht : mkTy P T = some t) (hr : t.row = true) {w : World} {g o : Nat} {cs : List Value} (hl : cs.length = t.size) (h : ∀ (j : Nat) (u : Value), cs[j]? = some u → w.cell? ⟨g, o + j, none⟩ = some u) : (loadVar T ⟨g, o, none⟩).run P w = .ok (.agg cs.toArray) w := by
  obtain ⟨i, d, z, hi, hd, _, hsz, _, hrow, _⟩ := mkTy_spec ht
  exact run_loadVar_mid w g o T cs d h hd (by rw [← hrow]; exact hr) (by rw [hi]; simp; omega)
variable {dst : Option Nat} {ty : TypeId} {e : Operand → A} {β : Bx} {v : A}
theorem does_load {T : TypeId} {x : Operand} {rd : List Nat} (h : ∀ (C : Ctx) (γ : Bx), Agreeing β γ rd → ∀ (ρ : Nat → Value) (I : Nat → Prop) (w : World), Mem C γ ρ I w → ∀ p, RepA ρ I w (e x) p → (e x).inB γ →
    ∃ ad vv, p = .pointer (some ad) ∧ (loadVar T ad).run P w = .ok vv w ∧ v.inB γ ∧ RepA ρ I w v vv) : Does P dst (.load T x) ty e β v [] rd :=
  Does.of_run fun C γ hag ρ I w hm a hops o ho _ => by
    obtain ⟨h1, h2⟩ := hops x (by simp [Op.operands])
    obtain ⟨ad, vv, hp, hl, h3, h4⟩ := h C γ hag ρ I w hm _ h2 h1
    refine ⟨vv, ?_, h3, h4⟩
    simp [execOp, ho, hp, Instr.loadAt, Instr.sureAddr, Sem.run_bind, hl]
theorem var_cell {C : Ctx} {γ : Bx} {ρ : Nat → Value} {I : Nat → Prop} {w : World} (hm : Mem C γ ρ I w) {id : Nat} {T0 : TypeId} {cs : List A} (hl : look id γ = some (.var T0 cs)) :
    ∃ g us, ρ id = .pointer (some ⟨g, 0, none⟩) ∧ w.heap[g]? = some (.cells us T0 (0, 0)) ∧ RepAs ρ I w true cs us.toList ∧ A.insB γ cs := by
  obtain ⟨g, us, h1, h2, h3⟩ := hm.box id _ hl
  exact ⟨g, us, h1, h2, h3, hm.clo id _ hl⟩
theorem cell_in {w : World} {g : Nat} {us : Array Value} {T : TypeId} {fz : Nat × Nat} (h : w.heap[g]? = some (.cells us T fz)) (i : Nat) : w.cell? ⟨g, i, none⟩ = us[i]? := by simp [World.cell?, h]
/-- One cell of a variable. -/
theorem does_load_var {T T0 : TypeId} {t : TyI} {x : Operand} {id off : Nat} {cs : List A} (ht : mkTy P T = some t) (hr : t.row = false) (hx : e x = .px id off) (hl : look id β = some (.var T0 cs)) (hv : cs[off]? = some v) : Does P dst (.load T x) ty e β v [] [id] :=
  does_load fun C γ hag ρ I w hm p hp hb => by
    rw [hx] at hp
    obtain ⟨g, hg, rfl⟩ := hp
    obtain ⟨g', us, h1, h2, h3, h4⟩ := var_cell hm ((hag id (by simp)).trans hl)
    rw [hg] at h1
    injection h1 with h1; injection h1 with h1; injection h1 with h1
    subst h1
    obtain ⟨u, hu, hrep, _⟩ := repAs_get h3 hv
    refine ⟨_, u, rfl, run_loadVar_one ht hr ?_, A.insB_mem h4 v (List.mem_of_getElem? hv), hrep⟩
    rw [cell_in h2]
    simpa using hu
/-- A struct or an array out of a variable. -/
theorem does_load_row {T T0 : TypeId} {t : TyI} {x : Operand} {id off : Nat} {cs : List A} {ds : List D} (ht : mkTy P T = some t) (hr : t.row = true) (hx : e x = .px id off) (hl : look id β = some (.var T0 cs))
    (hlen : off + t.size ≤ cs.length) (hv : allD ((cs.drop off).take t.size) = some ds) : Does P dst (.load T x) ty e β (.d (.ag ds)) [] [id] :=
  does_load fun C γ hag ρ I w hm p hp hb => by
    rw [hx] at hp
    obtain ⟨g, hg, rfl⟩ := hp
    obtain ⟨g', us, h1, h2, h3, h4⟩ := var_cell hm ((hag id (by simp)).trans hl)
    rw [hg] at h1
    injection h1 with h1; injection h1 with h1; injection h1 with h1
    subst h1
    have h5 := repAs_take t.size (repAs_drop off h3)
    rw [allD_map hv] at h5
    have hus := repAs_len h3
    refine ⟨_, _, rfl, run_loadVar_row' (cs := (us.toList.drop off).take t.size) ht hr ?_ (fun j u hu => ?_), trivial, _, rfl, repC_of_As h5⟩
    · rw [List.length_take, List.length_drop]; omega
    · rw [List.getElem?_take] at hu
      split at hu
      · rw [List.getElem?_drop] at hu
        rw [cell_in h2]
        simpa using hu
      · cases hu
/-- One cell of an element of a slice. -/
theorem does_load_elem {T : TypeId} {t : TyI} {x : Operand} {sz i off : Nat} {es : List (List D)} {el : List D} {d : D} (ht : mkTy P T = some t) (hr : t.row = false) (hx : e x = .pe sz es i off) (he : es[i]? = some el) (hd : el[off]? = some d) : Does P dst (.load T x) ty e β (.d d) [] [] :=
  does_load fun C γ hag ρ I w hm p hp hb => by
    rw [hx] at hp
    obtain ⟨_, xs, g, o, hR, rfl, _, hc⟩ := hp
    obtain ⟨us, h1, h2, h3, h4⟩ := repR_get hR he
    obtain ⟨u, hu, hrep, _⟩ := repC_get h1 hd
    refine ⟨_, u, rfl, run_loadVar_one ht hr ?_, trivial, hrep⟩
    have hoff : off < sz := by rw [← h2]; exact (List.getElem?_eq_some_iff.1 hd).1
    refine hc (i * sz + off) u ?_
    rw [← h4, List.getElem?_take, if_pos hoff, List.getElem?_drop] at hu
    exact hu
theorem does_load_elem_row {T : TypeId} {t : TyI} {x : Operand} {sz i off : Nat} {es : List (List D)} {el : List D} (ht : mkTy P T = some t) (hr : t.row = true) (hx : e x = .pe sz es i off) (he : es[i]? = some el) (hlen : off + t.size ≤ el.length) :
    Does P dst (.load T x) ty e β (.d (.ag ((el.drop off).take t.size))) [] [] :=
  does_load fun C γ hag ρ I w hm p hp hb => by
    rw [hx] at hp
    obtain ⟨_, xs, g, o, hR, rfl, _, hc⟩ := hp
    obtain ⟨us, h1, h2, h3, h4⟩ := repR_get hR he
    have h5 := repC_take t.size (repC_drop off h1)
    refine ⟨_, _, rfl, run_loadVar_row' (cs := (us.drop off).take t.size) ht hr ?_ (fun j u hu => ?_), trivial, _, rfl, h5⟩
    · rw [List.length_take, List.length_drop]; omega
    · rw [List.getElem?_take] at hu
      split at hu
      · rw [List.getElem?_drop, ← h4, List.getElem?_take] at hu
        split at hu
        · rw [List.getElem?_drop] at hu
          have := hc _ u hu
          rwa [show o + (i * sz + off) + j = o + (i * sz + (off + j)) by omega]
        · cases hu
      · cases hu
theorem does_load_elem_whole {T : TypeId} {t : TyI} {x : Operand} {sz i : Nat} {es : List (List D)} {el : List D} (ht : mkTy P T = some t) (hr : t.row = true) (hx : e x = .pe sz es i 0) (he : es[i]? = some el) (hlen : el.length = t.size) :
    Does P dst (.load T x) ty e β (.d (.ag el)) [] [] := by
  have := does_load_elem_row (P := P) (dst := dst) (ty := ty) (β := β) ht hr hx he (by omega)
  rwa [List.drop_zero, List.take_of_length_le (by omega)] at this
/-- Out of an own row. -/
theorem row_cells {C : Ctx} {γ : Bx} {ρ : Nat → Value} {I : Nat → Prop} {w : World} (hm : Mem C γ ρ I w) {id : Nat} {E : TypeId} {sz : Nat} {es : List (List D)} (hl : look id γ = some (.row E sz es)) {g n c : Nat} (hr : ρ id = .slice (some ⟨g, 0, none⟩) n c) :
    ∃ xs, RepR I w sz es xs ∧ n = es.length ∧ ∀ (j : Nat) (u : Value), xs[j]? = some u → w.cell? ⟨g, j, none⟩ = some u := by
  obtain ⟨xs, h1, h2⟩ := hm.box id _ hl
  have hn : n = es.length := by
    rcases h1.2 with ⟨h, _⟩ | ⟨g', cap, cur, h, _⟩
    · rw [hr] at h; cases h
    · rw [hr] at h; injection h
  refine ⟨xs, h2, hn, fun j u hu => ?_⟩
  have := h1.cells (g := g) (by rw [hr]; rfl) j u hu
  rwa [show (⟨g, 0, none⟩ : Addr).add j = ⟨g, j, none⟩ by unfold Addr.add; split <;> simp_all] at this
theorem frz_cells {C : Ctx} {γ : Bx} {ρ : Nat → Value} {I : Nat → Prop} {w : World} (hm : Mem C γ ρ I w) {id : Nat} {sz : Nat} {es : List (List D)} (hl : look id γ = some (.frz sz es)) {g n c : Nat} (hr : ρ id = .slice (some ⟨g, 0, none⟩) n c) (hn : 0 < n) :
    ∃ xs, RepR I w sz es xs ∧ n = es.length ∧ ∀ (j : Nat) (u : Value), xs[j]? = some u → w.cell? ⟨g, j, none⟩ = some u := by
  obtain ⟨ad, c', xs, h1, _, h2, h3⟩ := hm.box id _ hl
  rw [hr] at h1
  injection h1 with h1 h4 h5
  subst h4
  obtain ⟨g', off, e1, _, hc⟩ := h3 hn
  rw [← h1] at e1
  injection e1 with e1
  injection e1 with e1 e2
  subst e1 e2
  exact ⟨xs, h2, rfl, fun j u hu => by have := hc j u hu; rwa [Nat.zero_add] at this⟩
/-- The rows of a box: its own, or frozen. -/
def rowsOf (β : Bx) (id : Nat) : Option (Nat × List (List D)) := match look id β with
  | some (.row _ sz es) => some (sz, es)
  | some (.frz sz es) => some (sz, es)
  | _ => none
theorem rows_cells {C : Ctx} {γ : Bx} {ρ : Nat → Value} {I : Nat → Prop} {w : World} (hm : Mem C γ ρ I w) {id : Nat} {sz : Nat} {es : List (List D)} (hl : rowsOf γ id = some (sz, es)) {g n c : Nat} (hr : ρ id = .slice (some ⟨g, 0, none⟩) n c) (hn : 0 < n) :
    ∃ xs, RepR I w sz es xs ∧ n = es.length ∧ ∀ (j : Nat) (u : Value), xs[j]? = some u → w.cell? ⟨g, j, none⟩ = some u := by
  unfold rowsOf at hl
  split at hl
  · rename_i h; injection hl with hl; injection hl with h1 h2; subst h1 h2; exact row_cells hm h hr
  · rename_i h; injection hl with hl; injection hl with h1 h2; subst h1 h2; exact frz_cells hm h hr hn
  · cases hl
theorem rowsOf_agree {γ : Bx} {id : Nat} (h : look id γ = look id β) : rowsOf γ id = rowsOf β id := by unfold rowsOf; rw [h]
theorem does_load_own {T : TypeId} {t : TyI} {x : Operand} {id sz i off : Nat} {es : List (List D)} {el : List D} {d : D} (ht : mkTy P T = some t) (hr : t.row = false) (hx : e x = .pr id sz i off) (hl : rowsOf β id = some (sz, es)) (he : es[i]? = some el) (hd : el[off]? = some d) : Does P dst (.load T x) ty e β (.d d) [] [id] :=
  does_load fun C γ hag ρ I w hm p hp hb => by
    rw [hx] at hp
    obtain ⟨g, n, c, hρ, hk, rfl⟩ := hp
    obtain ⟨xs, hR, _, hc⟩ := rows_cells hm ((rowsOf_agree (hag id (by simp))).trans hl) hρ (by omega)
    obtain ⟨us, h1, h2, h3, h4⟩ := repR_get hR he
    obtain ⟨u, hu, hrep, _⟩ := repC_get h1 hd
    refine ⟨_, u, rfl, run_loadVar_one ht hr ?_, trivial, hrep⟩
    have hoff : off < sz := by rw [← h2]; exact (List.getElem?_eq_some_iff.1 hd).1
    refine hc (i * sz + off) u ?_
    rw [← h4, List.getElem?_take, if_pos hoff, List.getElem?_drop] at hu
    exact hu
/-! ### addresses -/
theorem cellsOf_info {T : TypeId} (h : P.cellsOf T ≠ 0) : ∃ i, P.info? T = some i ∧ i.size = P.cellsOf T := by
  unfold Program.cellsOf at h ⊢
  cases hi : P.info? T with
  | none => rw [hi] at h; simp at h
  | some i => exact ⟨i, rfl, by simp⟩
theorem run_sizeOf {T : TypeId} (h : P.cellsOf T ≠ 0) (w : World) : (sizeOf T).run P w = .ok (P.cellsOf T) w := by
  obtain ⟨i, hi, hs⟩ := cellsOf_info h
  simp [sizeOf, typeInfo, hi, Sem.run_bind, hs]
theorem sizeOf_mkTy {T : TypeId} {t : TyI} (h : mkTy P T = some t) (w : World) : (sizeOf T).run P w = .ok t.size w := by
  obtain ⟨i, d, z, hi, _, _, hsz, _⟩ := mkTy_spec h
  simp [sizeOf, typeInfo, hi, Sem.run_bind, hsz]
theorem run_fieldAt {T : TypeId} {t : TyI} {fs : List (Nat × Nat × Bool)} {f off size : Nat} {row : Bool} (ht : mkTy P T = some t) (hk : t.kind = .struct fs) (hf : fs[f]? = some (off, size, row)) (hs : size ≠ 0) (g o : Nat) (w : World) :
    (Instr.fieldAt T (.pointer (some ⟨g, o, none⟩)) f).run P w = .ok (.pointer (some ⟨g, o + off, none⟩)) w := by
  obtain ⟨i, d, z, _, hd, _, _, _, _, _, hkd⟩ := mkTy_spec ht
  obtain ⟨gs, rfl, rfl⟩ := kind_struct (hkd.symm.trans hk)
  rw [List.getElem?_map] at hf
  cases hg : gs.toList[f]? with
  | none => rw [hg] at hf; simp at hf
  | some fd =>
    rw [hg] at hf
    simp only [Option.map_some, Option.some.injEq, Prod.mk.injEq] at hf
    obtain ⟨rfl, h2, rfl⟩ := hf
    have hg2 : gs[f]? = some fd := by simpa using hg
    have hne : P.cellsOf fd.type ≠ 0 := by rw [h2]; exact hs
    have hadd : (⟨g, o, none⟩ : Addr).add fd.offset = ⟨g, o + fd.offset, none⟩ := Addr.add_mid g o fd.offset
    simp [Instr.fieldAt, Sem.run_bind, run_underlying hd, hg2, Instr.sureAddr, fieldPlace, run_sizeOf hne, hne, hadd]
def addrAdd (k : Nat) : A → Option A
  | .pe sz es i off => some (.pe sz es i (off + k))
  | .px id off => some (.px id (off + k))
  | .pr id sz i off => some (.pr id sz i (off + k))
  | _ => none
theorem addrAdd_rep {ρ : Nat → Value} {I : Nat → Prop} {w : World} {γ : Bx} {x y : A} {k : Nat} {p : Value} (h : addrAdd k x = some y) (hr : RepA ρ I w x p) (hb : x.inB γ) :
    ∃ g o, p = .pointer (some ⟨g, o, none⟩) ∧ y.inB γ ∧ RepA ρ I w y (.pointer (some ⟨g, o + k, none⟩)) := by
  cases x with
  | pe sz es i off =>
    injection h with h; subst h
    obtain ⟨h1, xs, g, o, h2, rfl, h3, h4⟩ := hr
    exact ⟨g, _, rfl, trivial, h1, xs, g, o, h2, by rw [Nat.add_assoc, Nat.add_assoc], h3, h4⟩
  | px id off =>
    injection h with h; subst h
    obtain ⟨g, h1, rfl⟩ := hr
    exact ⟨g, _, rfl, hb, g, h1, rfl⟩
  | pr id sz i off =>
    injection h with h; subst h
    obtain ⟨g, n, c, h1, h2, rfl⟩ := hr
    exact ⟨g, _, rfl, hb, g, n, c, h1, h2, by rw [Nat.add_assoc]⟩
  | _ => cases h
theorem does_fieldAddr {T : TypeId} {t : TyI} {fs : List (Nat × Nat × Bool)} {x : Operand} {f off size : Nat} {row : Bool} {y : A} (ht : mkTy P T = some t) (hk : t.kind = .struct fs) (hf : fs[f]? = some (off, size, row)) (hs : size ≠ 0) (hx : addrAdd off (e x) = some y) :
    Does P dst (.fieldAddr T x f) ty e β y [] [] :=
  Does.of_run fun C γ _ ρ I w _ a hops o ho _ => by
    obtain ⟨h1, h2⟩ := hops x (by simp [Op.operands])
    obtain ⟨g, o', hp, h3, h4⟩ := addrAdd_rep hx h2 h1
    refine ⟨_, ?_, h3, h4⟩
    simp only [execOp, ho, hp, Sem.run_bind, run_fieldAt ht hk hf hs]
    rfl
theorem run_indexAt_slice {T el : TypeId} {t te : TyI} (ht : mkTy P T = some t) (hk : t.kind = .slice el) (hte : mkTy P el = some te) {g o n c i : Nat} {k : IntKind} (hi : i < n) (w : World) :
    (Instr.indexAt T (.slice (some ⟨g, o, none⟩) n c) (.int k (i : Int))).run P w = .ok (.pointer (some ⟨g, o + i * te.size, none⟩)) w := by
  obtain ⟨inf, d, z, _, hd, _, _, _, _, _, hkd⟩ := mkTy_spec ht
  have hd2 : P.underlying T = some (.slice el) := by rw [hd, kind_slice (hkd.symm.trans hk)]
  have hadd : (⟨g, o, none⟩ : Addr).add (i * te.size) = ⟨g, o + i * te.size, none⟩ := Addr.add_mid g o _
  have hin : (0 : Int) ≤ i ∧ (i : Int) < n := ⟨by omega, by omega⟩
  simp [Instr.indexAt, asIntOf, Sem.run_bind, run_underlying hd2, hin, sizeOf_mkTy hte, hadd, hi]
theorem does_index_sl {T el : TypeId} {t te : TyI} {x y : Operand} {sz i : Nat} {k : IntKind} {n : Int} {es : List (List D)} (ht : mkTy P T = some t) (hk : t.kind = .slice el) (hte : mkTy P el = some te) (hx : e x = .d (.sl sz es)) (hy : e y = .d (.sc (.int k n))) (hn : n = (i : Nat)) (hsz : te.size = sz) (hi : i < es.length) :
    Does P dst (.indexAddr T x y) ty e β (.pe sz es i 0) [] [] :=
  Does.of_run fun C γ _ ρ I w _ a hops o ho _ => by
    have h1 := (hops x (by simp [Op.operands])).2
    have h2 := (hops y (by simp [Op.operands])).2
    rw [hx] at h1
    rw [hy] at h2
    have h2 := repA_sc h2
    subst hn
    obtain ⟨ad, c, xs, h1, hc, hR, hg⟩ := h1
    obtain ⟨g, off, rfl, hI, hcell⟩ := hg (by omega)
    refine ⟨.pointer (some ⟨g, off + i * te.size, none⟩), ?_, trivial, hi, xs, g, off, hR, by rw [hsz, Nat.add_zero], hI, hcell⟩
    simp only [execOp, ho, h1, h2, Sem.run_bind, run_indexAt_slice ht hk hte hi]
    rfl
theorem does_index_own {T el : TypeId} {t te : TyI} {x y : Operand} {id m i : Nat} {k : IntKind} {n : Int} (ht : mkTy P T = some t) (hk : t.kind = .slice el) (hte : mkTy P el = some te) (hx : e x = .ow id m) (hy : e y = .d (.sc (.int k n))) (hn : n = (i : Nat)) (hi : i < m) :
    Does P dst (.indexAddr T x y) ty e β (.pr id te.size i 0) [] [] :=
  Does.of_run fun C γ _ ρ I w _ a hops o ho _ => by
    have h1 := hops x (by simp [Op.operands])
    have h2 := (hops y (by simp [Op.operands])).2
    rw [hx] at h1
    rw [hy] at h2
    have h2 := repA_sc h2
    subst hn
    obtain ⟨hb, h1, ad, c, h3, hc, hg⟩ := h1
    obtain ⟨g, rfl⟩ := hg (by omega)
    refine ⟨.pointer (some ⟨g, 0 + i * te.size, none⟩), ?_, hb, g, m, c, h1.symm.trans h3, hi, by rw [Nat.zero_add, Nat.add_zero]⟩
    simp only [execOp, ho, h3, h2, Sem.run_bind, run_indexAt_slice ht hk hte hi]
    rfl
theorem does_nilCheck {x : Operand} {y : A} (hx : addrAdd 0 (e x) = some y) : Does P dst (.nilCheck x) ty e β y [] [] :=
  Does.of_run fun C γ _ ρ I w _ a hops o ho _ => by
    obtain ⟨h1, h2⟩ := hops x (by simp [Op.operands])
    obtain ⟨g, o', hp, h3, h4⟩ := addrAdd_rep hx h2 h1
    refine ⟨_, ?_, h3, h4⟩
    simp [execOp, ho, hp]
end
end Go.Proofs.YtfplkakfakdfhaaDoor


/-
  The pure layer: how memory turns: new boxes, stores, appends, frozen rows. No condition.
-/
namespace Go.Proofs.YtfplkakfakdfhaaDoor
set_option linter.unusedSimpArgs false
set_option linter.unusedVariables false
open Go.RowKit

theorem has_blk {b : Box} {w : World} {v : Value} {g : Nat} (h : b.live = true) (hb : b.has w v g) : blk v = some g := by
  cases b with
  | var => exact hb
  | row => exact hb
  | itr => exact hb
  | _ => cases h
theorem ownsRow_same {w w' : World} {base : Nat} {e : TypeId} {size n : Nat} {v : Value} {xs : List Value} (h : w.ownsRow base e size v n xs) (hs : ∀ g, blk v = some g → w'.heap[g]? = w.heap[g]?) : w'.ownsRow base e size v n xs := by
  refine ⟨h.1, ?_⟩
  rcases h.2 with h0 | ⟨g, cap, cur, rfl, h2, h3, h4⟩
  · exact .inl h0
  · exact .inr ⟨g, cap, cur, rfl, h2, (hs g rfl).trans h3, h4⟩
theorem BoxRep.ext {γ : Bx} {ρ ρ' : Nat → Value} {I I' : Nat → Prop} {w w' : World} {id : Nat} {b : Box} (h : BoxRep ρ I w id b) (hx : Ext γ ρ I w ρ' I' w') (hid : dom γ id) (hc : b.inB γ)
    (hs : ∀ g, b.has w (ρ id) g → w'.heap[g]? = w.heap[g]?) : BoxRep ρ' I' w' id b := by
  cases b with
  | res X =>
    obtain ⟨fs, h1⟩ := h
    refine ⟨fs, ?_⟩
    rw [hx.rho id hid]
    exact X.stay h1 fun g hg => hs g ⟨fs, h1, hg⟩
  | var T cs =>
    obtain ⟨g, us, h1, h2, h3⟩ := h
    exact ⟨g, us, (hx.rho id hid).trans h1, (hs g (show blk (ρ id) = some g by rw [h1]; rfl)).trans h2, RepAs.ext hx true cs _ hc h3⟩
  | row E sz es =>
    obtain ⟨xs, h1, h2⟩ := h
    refine ⟨xs, ?_, RepR.ext hx.toExtI sz es xs h2⟩
    rw [hx.rho id hid]
    exact ownsRow_same h1 fun g hg => hs g hg
  | frz sz es =>
    show RepD I' w' (.sl sz es) (ρ' id)
    rw [hx.rho id hid]
    exact RepD.ext hx.toExtI _ _ h
  | itr s pos =>
    obtain ⟨g, h1, h2⟩ := h
    exact ⟨g, (hx.rho id hid).trans h1, (hs g (show blk (ρ id) = some g by rw [h1]; rfl)).trans h2⟩
  | rel j X =>
    obtain ⟨fs, h1⟩ := h
    refine ⟨fs, ?_⟩
    rw [hx.rho id hid, hx.rho j hc]
    exact X.stay h1 fun g hg => hs g ⟨_, fs, h1, hg⟩
  | dead => trivial
theorem Mem.upd {C : Ctx} {γ : Bx} {ρ : Nat → Value} {I : Nat → Prop} {w : World} (hm : Mem C γ ρ I w) (ups : Bx) {ρ' : Nat → Value} {I' : Nat → Prop} {w' : World} (hx : Ext γ ρ I w ρ' I' w')
    (hos : w'.os = w.os) (hta : w'.tape = w.tape) (hou : w'.output = w.output) (hsz : w.heap.size ≤ w'.heap.size) (himm : ∀ g, I' g → g < w'.heap.size) (hnew : ∀ g, I' g → I g ∨ C.w0.heap.size ≤ g ∨ C.PB g)
    (touched : Nat → Prop) (hsame : ∀ k, k < w.heap.size → ¬ touched k → w'.heap[k]? = w.heap[k]?) (htouch : ∀ k, touched k → C.w0.heap.size ≤ k ∨ C.PB k)
    (hold : ∀ id b g, look id γ = some b → look id ups = none → b.has w (ρ id) g → ¬ touched g ∧ ¬ I' g)
    (hups : ∀ id b, look id ups = some b → BoxRep ρ' I' w' id b ∧ b.inB (ups ++ γ) ∧ (∀ g, b.has w' (ρ' id) g → g < w'.heap.size ∧ ¬ I' g ∧ (C.w0.heap.size ≤ g ∨ C.PB g) ∧
      (∀ id2 b2, look id2 γ = some b2 → look id2 ups = none → ¬ b2.has w (ρ id2) g)))
    (hinj : ∀ i j b b' g, look i ups = some b → look j ups = some b' → b.has w' (ρ' i) g → b'.has w' (ρ' j) g → i = j) : Mem C (ups ++ γ) ρ' I' w' := by
  have hcase : ∀ id b, look id (ups ++ γ) = some b → look id ups = some b ∨ (look id ups = none ∧ look id γ = some b) := fun id b h => by
    rw [look_append] at h
    cases hu : look id ups with
    | none => rw [hu] at h; exact .inr ⟨rfl, h⟩
    | some b' => rw [hu] at h; exact .inl h
  have hdom : ∀ id b, look id γ = some b → dom γ id := fun id b h => by unfold dom; rw [h]; simp
  have hback : ∀ id b g, look id γ = some b → look id ups = none → b.has w' (ρ' id) g → b.has w (ρ id) g := fun id b g h h0 hg => by
    rw [hx.rho id (hdom id b h)] at hg
    exact has_back (hm.box id b h) (fun k hk => hsame k (hm.own id b k h hk).1 (hold id b k h h0 hk).1) hg
  refine ⟨hos.trans hm.os, hta.trans hm.tape, hou.trans hm.output, Nat.le_trans hm.size hsz, fun k hk hp => ?_, himm, fun g hg => ?_, fun id b hb => ?_, fun id b g hb hg => ?_, fun i j b b' g hb hb' hg hg' => ?_, fun id b hb => ?_, hm.gl.ext hx.toExtI⟩
  · rw [hsame k (Nat.lt_of_lt_of_le hk hm.size) (fun ht => ?_)]
    · exact hm.frame k hk hp
    · rcases htouch k ht with h | h
      · omega
      · exact hp h
  · rcases hnew g hg with h | h
    · exact hm.new g h
    · exact .inr h
  · rcases hcase id b hb with h | ⟨h0, h⟩
    · exact (hups id b h).1
    · refine BoxRep.ext (hm.box id b h) hx (hdom id b h) (hm.clo id b h) fun g hg => ?_
      exact hsame g (hm.own id b g h hg).1 (hold id b g h h0 hg).1
  · rcases hcase id b hb with h | ⟨h0, h⟩
    · obtain ⟨h1, h2, h3, _⟩ := (hups id b h).2.2 g hg
      exact ⟨h1, h2, h3⟩
    · have hg := hback id b g h h0 hg
      obtain ⟨h1, h2, h3⟩ := hm.own id b g h hg
      exact ⟨Nat.lt_of_lt_of_le h1 hsz, (hold id b g h h0 hg).2, h3⟩
  · rcases hcase i b hb with h | ⟨h0, h⟩ <;> rcases hcase j b' hb' with h' | ⟨h0', h'⟩
    · exact hinj i j b b' g h h' hg hg'
    · exact absurd (hback j b' g h' h0' hg') (((hups i b h).2.2 g hg).2.2.2 j b' h' h0')
    · exact absurd (hback i b g h h0 hg) (((hups j b' h').2.2 g hg').2.2.2 i b h h0)
    · exact hm.inj i j b b' g h h' (hback i b g h h0 hg) (hback j b' g h' h0' hg')
  · rcases hcase id b hb with h | ⟨h0, h⟩
    · exact (hups id b h).2.1
    · exact Box.inB_mono (fun i hi => dom_append hi) b (hm.clo id b h)
def updF (ρ : Nat → Value) (id : Nat) (v : Value) (i : Nat) : Value := if i = id then v else ρ i
theorem upd_same (ρ : Nat → Value) (id : Nat) (v : Value) : updF ρ id v id = v := by simp [updF]
theorem upd_other (ρ : Nat → Value) (id : Nat) (v : Value) {i : Nat} (h : i ≠ id) : updF ρ id v i = ρ i := by simp [updF, h]
theorem upd_dom {γ : Bx} {fr : Nat} (hf : look fr γ = none) (ρ : Nat → Value) (v : Value) : ∀ id, dom γ id → updF ρ fr v id = ρ id := fun id hd => upd_other ρ fr v (fun h => hd (h ▸ hf))
theorem look_one {id i : Nat} {b b' : Box} (h : look i [(id, b)] = some b') : i = id ∧ b' = b := by
  rw [look_cons] at h
  split at h
  · rename_i hk; exact ⟨hk.symm, by injection h with h; exact h.symm⟩
  · cases h
theorem look_one_none {id i : Nat} {b : Box} (h : look i [(id, b)] = none) : i ≠ id := by
  rw [look_cons] at h
  split at h
  · cases h
  · rename_i hk; exact fun e => hk e.symm
/-- A new box. -/
theorem Mem.new_box {C : Ctx} {γ : Bx} {ρ : Nat → Value} {I : Nat → Prop} {w w' : World} (hm : Mem C γ ρ I w) {fr : Nat} (hf : look fr γ = none) {v : Value} {b : Box} (hg : w.grownBy w' none)
    (hv : ∀ g, blk v = some g → w.heap.size ≤ g ∧ g < w'.heap.size) (hr : Ext γ ρ I w (updF ρ fr v) I w' → BoxRep (updF ρ fr v) I w' fr b) (hb : b.inB ([(fr, b)] ++ γ)) (hlb : b.live = true := by rfl) :
    Mem C ([(fr, b)] ++ γ) (updF ρ fr v) I w' ∧ Ext γ ρ I w (updF ρ fr v) I w' := by
  have hx : Ext γ ρ I w (updF ρ fr v) I w' := ⟨⟨fun _ h => h, fun g h => hg.block g (hm.imm g h) (by simp)⟩, upd_dom hf ρ v⟩
  refine ⟨hm.upd _ hx hg.os hg.tape hg.output hg.size (fun g h => Nat.lt_of_lt_of_le (hm.imm g h) hg.size) (fun g h => .inl h) (fun _ => False) (fun k hk _ => hg.block k hk (by simp)) (fun k h => h.elim) (fun id b' g hl _ hh => ⟨fun h => h, (hm.own id b' g hl hh).2.1⟩)
    (fun id b' h => ?_) (fun i j b' b'' g hi hj _ _ => by rw [(look_one hi).1, (look_one hj).1]), hx⟩
  obtain ⟨rfl, rfl⟩ := look_one h
  refine ⟨hr hx, hb, fun g hbk => ?_⟩
  have hbk := has_blk hlb hbk
  rw [upd_same] at hbk
  obtain ⟨h1, h2⟩ := hv g hbk
  refine ⟨h2, fun hI => ?_, .inl (Nat.le_trans hm.size h1), fun id2 b2 hl2 _ hbk2 => ?_⟩
  · have := hm.imm g hI; omega
  · have := (hm.own id2 b2 g hl2 hbk2).1; omega
/-- A box turned in place. -/
theorem Mem.set_box {C : Ctx} {γ : Bx} {ρ : Nat → Value} {I : Nat → Prop} {w w' : World} (hm : Mem C γ ρ I w) {id : Nat} {b0 b : Box} (hl : look id γ = some b0) (hlv : b0.live = true) {g : Nat} (hbk : blk (ρ id) = some g) (hg : w.grownBy w' (some g))
    (hr : Ext γ ρ I w ρ I w' → BoxRep ρ I w' id b) (hb : b.inB ([(id, b)] ++ γ)) (hlb : b.live = true := by rfl) : Mem C ([(id, b)] ++ γ) ρ I w' ∧ Ext γ ρ I w ρ I w' := by
  have hh0 : b0.has w (ρ id) g := has_live hlv hbk
  obtain ⟨o1, o2, o3⟩ := hm.own id b0 g hl hh0
  have hx : Ext γ ρ I w ρ I w' := ⟨⟨fun _ h => h, fun k h => hg.block k (hm.imm k h) (fun e => by injection e with e; subst e; exact o2 h)⟩, fun _ _ => rfl⟩
  refine ⟨hm.upd _ hx hg.os hg.tape hg.output hg.size (fun k h => Nat.lt_of_lt_of_le (hm.imm k h) hg.size) (fun k h => .inl h) (fun k => k = g) (fun k hk hn => hg.block k hk (fun e => by injection e with e; exact hn e)) (fun k h => by subst h; exact o3)
    (fun i b' k hi hn hbk' => ⟨fun e => ?_, (hm.own i b' k hi hbk').2.1⟩) (fun i b' h => ?_) (fun i j b' b'' k hi hj _ _ => by rw [(look_one hi).1, (look_one hj).1]), hx⟩
  · subst e
    exact look_one_none hn (hm.inj i id b' b0 k hi hl hbk' hh0)
  · obtain ⟨rfl, rfl⟩ := look_one h
    refine ⟨hr hx, hb, fun k hk => ?_⟩
    have hk := has_blk hlb hk
    rw [hbk] at hk
    injection hk with hk
    subst hk
    exact ⟨Nat.lt_of_lt_of_le o1 hg.size, o2, o3, fun id2 b2 hl2 hn2 hbk2 => look_one_none hn2 (hm.inj id2 i b2 b0 g hl2 hl hbk2 hh0)⟩
/-- A row of the call's own is frozen. -/
theorem row_repD {C : Ctx} {γ : Bx} {ρ : Nat → Value} {I : Nat → Prop} {w : World} (hm : Mem C γ ρ I w) {id : Nat} {E : TypeId} {sz : Nat} {es : List (List D)} (hl : look id γ = some (.row E sz es)) (J : Nat → Prop) (hJ : ∀ g, I g → J g) (hJ2 : ∀ g, blk (ρ id) = some g → J g) :
    RepD J w (.sl sz es) (ρ id) := by
  obtain ⟨xs, h1, h2⟩ := hm.box id _ hl
  have h3 : RepR J w sz es xs := RepR.ext ⟨hJ, fun _ _ => rfl⟩ sz es xs h2
  rcases h1.2 with ⟨hv, hn⟩ | ⟨g, cap, cur, hv, _, hh, hnc, hcm, hcs, htk⟩
  · exact ⟨none, 0, xs, by rw [hv, hn], by omega, h3, fun h => by omega⟩
  · refine ⟨some ⟨g, 0, none⟩, cap, xs, hv, hnc, h3, fun _ => ⟨g, 0, rfl, hJ2 g (by rw [hv]; rfl), fun j u hu => ?_⟩⟩
    have := h1.cells (g := g) (by rw [hv]; rfl) j u hu
    rwa [Addr.add_mid] at this
theorem Mem.freeze {C : Ctx} {γ : Bx} {ρ : Nat → Value} {I : Nat → Prop} {w : World} (hm : Mem C γ ρ I w) {id : Nat} {E : TypeId} {sz : Nat} {es : List (List D)} (hl : look id γ = some (.row E sz es)) :
    ∃ I', Mem C ([(id, .frz sz es)] ++ γ) ρ I' w ∧ Ext γ ρ I w ρ I' w := by
  have hx : Ext γ ρ I w ρ (fun g => I g ∨ blk (ρ id) = some g) w := ⟨⟨fun _ h => .inl h, fun _ _ => rfl⟩, fun _ _ => rfl⟩
  refine ⟨_, hm.upd _ hx rfl rfl rfl (Nat.le_refl _) (fun g h => ?_) (fun g h => ?_) (fun _ => False) (fun k hk _ => rfl) (fun k h => h.elim) (fun i b' k hi hn hbk' => ⟨fun h => h, fun h => ?_⟩) (fun i b' h => ?_)
    (fun i j b' b'' k hi hj _ _ => by rw [(look_one hi).1, (look_one hj).1]), hx⟩
  · rcases h with h | h
    · exact hm.imm g h
    · exact (hm.own id _ g hl h).1
  · rcases h with h | h
    · exact .inl h
    · exact .inr (hm.own id _ g hl h).2.2
  · rcases h with h | h
    · exact (hm.own i b' k hi hbk').2.1 h
    · exact look_one_none hn (hm.inj i id b' _ k hi hl hbk' h)
  · obtain ⟨rfl, rfl⟩ := look_one h
    exact ⟨row_repD hm hl _ (fun g h => .inl h) (fun g h => .inr h), trivial, fun g h => by cases h⟩
end Go.Proofs.YtfplkakfakdfhaaDoor


/-
  The pure layer: the operations that turn memory. No condition.
-/
namespace Go.Proofs.YtfplkakfakdfhaaDoor
set_option linter.unusedSimpArgs false
set_option linter.unusedVariables false
open Go.RowKit

theorem cellD_rep {I : Nat → Prop} {w : World} {v : Value} (h : v.oneCell' = true) : RepD I w (cellD v) v := by
  unfold cellD
  split
  · rfl
  · exact ⟨rfl, h⟩
theorem cellD_one (v : Value) : (cellD v).one = true := by unfold cellD; split <;> rfl
theorem repC_cellD {I : Nat → Prop} {w : World} : ∀ {l : List Value}, (∀ v ∈ l, v.oneCell' = true) → RepC I w true (l.map cellD) l
  | [], _ => rfl
  | v :: l, h => ⟨v, l, rfl, fun _ => cellD_one v, cellD_rep (h v (by simp)), repC_cellD fun u hu => h u (by simp [hu])⟩
theorem mkTy_zero {P : Program} {T : TypeId} {t : TyI} (h : mkTy P T = some t) : ∃ z, (∀ w, (zeroValue T).run P w = .ok z w) ∧ (∀ I w, RepC I w true t.zero z.cells.toList) ∧ z.cells.size = t.size ∧ t.zero.length = t.size := by
  obtain ⟨i, d, z, hi, _, hz, hs, _, _, h7, _, h9, h10⟩ := mkTy_all h
  refine ⟨z, fun w => by simp [zeroValue, typeInfo, hi, hz, Sem.run_bind], fun I w => ?_, by rw [h10, hs], by rw [h7, List.length_map, Array.length_toList, h10, hs]⟩
  rw [h7]
  exact repC_cellD fun v hv => (Array.all_eq_true_iff_forall_mem.1 h9) v (by simpa using hv)
theorem grownBy_alloc' (w : World) (o : Obj) : w.grownBy { w with heap := w.heap.push o } none := World.grownBy_alloc w o none
theorem push_at (w : World) (o : Obj) : ({ w with heap := w.heap.push o } : World).heap[w.heap.size]? = some o := by simp
section
variable {P : Program} {fr : Nat} {dst : Option Nat} {ty : TypeId} {e : Operand → A} {β : Bx}
theorem insB_map {γ : Bx} : ∀ l : List D, A.insB γ (l.map .d)
  | [] => trivial
  | _ :: l => ⟨trivial, insB_map l⟩
theorem does_alloc {T : TypeId} {t : TyI} (ht : mkTy P T = some t) (hf : look fr β = none) : Does P (some fr) (.alloc T) ty e β (.px fr 0) [(fr, .var T (t.zero.map .d))] [] := by
  intro C γ hag ρ I w hm a hx o ho hd hty K Q hK
  obtain ⟨z, hz, hr, _, _⟩ := mkTy_zero ht
  have hf2 : look fr γ = none := (hag fr (by simp)).trans hf
  obtain ⟨h1, h2⟩ := hm.new_box hf2 (v := .pointer (some ⟨w.heap.size, 0, none⟩)) (b := .var T (t.zero.map .d)) (grownBy_alloc' w (.cells z.cells T)) (fun g hg => by
      simp only [blk, Option.some.injEq] at hg; subst hg; simp) (fun hx => ⟨w.heap.size, z.cells, by rw [upd_same], push_at w _, repAs_of_C (hr _ _)⟩) (insB_map _)
  unfold Oper.wp
  have hrun : (execOp a.eval o).run P w = .ok (.value (.pointer (some ⟨w.heap.size, 0, none⟩))) { w with heap := w.heap.push (.cells z.cells T) } := by
    simp [execOp, ho, Instr.alloc, Sem.run_bind, hz, newVar, newRow]
  rw [hrun, Oper.upon_value, hd]
  exact hK _ _ I _ h1 h2 (by unfold A.inB dom; simp [look_append, look_cons]) ⟨w.heap.size, by rw [upd_same], rfl⟩
theorem does_box {T : TypeId} {x : Operand} {vs : List A} (hx : e x = .ag vs) (hf : look fr β = none) : Does P (some fr) (.box T x) ty e β (.px fr 0) [(fr, .var T vs)] [] := by
  intro C γ hag ρ I w hm a hops o ho hd hty K Q hK
  have hf2 : look fr γ = none := (hag fr (by simp)).trans hf
  obtain ⟨hb, hv⟩ := hops x (by simp [Op.operands])
  rw [hx] at hb hv
  obtain ⟨us, hu, hr⟩ := hv
  obtain ⟨h1, h2⟩ := hm.new_box hf2 (v := .pointer (some ⟨w.heap.size, 0, none⟩)) (b := .var T vs) (grownBy_alloc' w (.cells us T)) (fun g hg => by
      simp only [blk, Option.some.injEq] at hg; subst hg; simp) (fun hx => ⟨w.heap.size, us, by rw [upd_same], push_at w _, RepAs.ext hx true vs _ hb hr⟩) (A.insB_mono (fun i hi => dom_append hi) _ hb)
  unfold Oper.wp
  have hrun : (execOp a.eval o).run P w = .ok (.value (.pointer (some ⟨w.heap.size, 0, none⟩))) { w with heap := w.heap.push (.cells us T) } := by
    simp [execOp, ho, hu, Instr.box, Sem.run_bind, newVar, newRow, Value.cells]
  rw [hrun, Oper.upon_value, hd]
  exact hK _ _ I _ h1 h2 (by unfold A.inB dom; simp [look_append, look_cons]) ⟨w.heap.size, by rw [upd_same], rfl⟩
theorem does_box_one {T : TypeId} {x : Operand} {v : A} (hx : e x = v) (hv1 : v.one = true) (hf : look fr β = none) : Does P (some fr) (.box T x) ty e β (.px fr 0) [(fr, .var T [v])] [] := by
  intro C γ hag ρ I w hm a hops o ho hd hty K Q hK
  have hf2 : look fr γ = none := (hag fr (by simp)).trans hf
  obtain ⟨hb, hv⟩ := hops x (by simp [Op.operands])
  rw [hx] at hb hv
  have h1c := repA_one hv hv1
  have hcs : (a.eval x).cells = #[a.eval x] := by
    generalize a.eval x = u at h1c
    cases u <;> first | rfl | cases h1c
  obtain ⟨h1, h2⟩ := hm.new_box hf2 (v := .pointer (some ⟨w.heap.size, 0, none⟩)) (b := .var T [v]) (grownBy_alloc' w (.cells #[a.eval x] T)) (fun g hg => by
      simp only [blk, Option.some.injEq] at hg; subst hg; simp) (fun hx => ⟨w.heap.size, #[a.eval x], by rw [upd_same], push_at w _, ⟨_, [], rfl, fun _ => hv1, RepA.ext hx v _ hb hv, rfl⟩⟩) ⟨A.inB_mono (fun i hi => dom_append hi) _ hb, trivial⟩
  unfold Oper.wp
  have hrun : (execOp a.eval o).run P w = .ok (.value (.pointer (some ⟨w.heap.size, 0, none⟩))) { w with heap := w.heap.push (.cells #[a.eval x] T) } := by
    simp [execOp, ho, Instr.box, Sem.run_bind, newVar, newRow, hcs]
  rw [hrun, Oper.upon_value, hd]
  exact hK _ _ I _ h1 h2 (by unfold A.inB dom; simp [look_append, look_cons]) ⟨w.heap.size, by rw [upd_same], rfl⟩
theorem does_box_ag {T : TypeId} {x : Operand} {vs : List D} (hx : e x = .d (.ag vs)) (hf : look fr β = none) : Does P (some fr) (.box T x) ty e β (.px fr 0) [(fr, .var T (vs.map .d))] [] := by
  intro C γ hag ρ I w hm a hops o ho hd hty K Q hK
  have hf2 : look fr γ = none := (hag fr (by simp)).trans hf
  obtain ⟨hb, hv⟩ := hops x (by simp [Op.operands])
  rw [hx] at hb hv
  obtain ⟨us, hu, hr⟩ := hv
  obtain ⟨h1, h2⟩ := hm.new_box hf2 (v := .pointer (some ⟨w.heap.size, 0, none⟩)) (b := .var T (vs.map .d)) (grownBy_alloc' w (.cells us T)) (fun g hg => by
      simp only [blk, Option.some.injEq] at hg; subst hg; simp) (fun hx => ⟨w.heap.size, us, by rw [upd_same], push_at w _, repAs_of_C (RepC.ext hx.toExtI true vs _ hr)⟩) (insB_map _)
  unfold Oper.wp
  have hrun : (execOp a.eval o).run P w = .ok (.value (.pointer (some ⟨w.heap.size, 0, none⟩))) { w with heap := w.heap.push (.cells us T) } := by
    simp [execOp, ho, hu, Instr.box, Sem.run_bind, newVar, newRow, Value.cells]
  rw [hrun, Oper.upon_value, hd]
  exact hK _ _ I _ h1 h2 (by unfold A.inB dom; simp [look_append, look_cons]) ⟨w.heap.size, by rw [upd_same], rfl⟩
def A.cells : A → List A
  | .d (.ag ds) => ds.map .d
  | .ag cs => cs
  | v => [v]
def putAt {α : Type} (cs : List α) (off : Nat) (vs : List α) : List α := cs.take off ++ vs ++ cs.drop (off + vs.length)
theorem setCell_grown (w : World) (p : Addr) (u : Value) : w.grownBy (w.setCell p u) (some p.block) :=
  ⟨rfl, rfl, rfl, by simp [World.setCell], fun k hk hne => Below.heap_setCell w p u k (fun e => hne (by rw [e]))⟩
theorem setCell_at {w : World} {g : Nat} {us : Array Value} {T : TypeId} {fz : Nat × Nat} (h : w.heap[g]? = some (.cells us T fz)) (i : Nat) (u : Value) : (w.setCell ⟨g, i, none⟩ u).heap[g]? = some (.cells (us.setIfInBounds i u) T fz) := by
  simp [World.setCell, Array.getElem?_modify, h]
theorem repAs_set {ρ : Nat → Value} {I : Nat → Prop} {w : World} {o : Bool} {v : A} {u : Value} (hv : RepA ρ I w v u) (h1 : o = true → v.one = true) : ∀ {ds : List A} {l : List Value} (i : Nat), RepAs ρ I w o ds l → RepAs ρ I w o (ds.set i v) (l.set i u)
  | [], _, i, h => by cases h; rfl
  | d0 :: ds, _, 0, ⟨u0, us, rfl, ho, hd, hr⟩ => ⟨u, us, rfl, h1, hv, hr⟩
  | d0 :: ds, _, i + 1, ⟨u0, us, rfl, ho, hd, hr⟩ => ⟨u0, us.set i u, rfl, ho, hd, repAs_set hv h1 i hr⟩
theorem run_storeVar_one {T : TypeId} {t : TyI} (ht : mkTy P T = some t) (hs : t.size = 1) {w : World} {p : Addr} {u v : Value} (hc : w.cell? p = some u) (hfz : w.frozen? p = false) (h1 : v.oneCell' = true) : (storeVar T p v).run P w = .ok () (w.setCell p v) := by
  have hcs : v.cells = #[v] := by cases v <;> first | rfl | cases h1
  simp [storeVar, Sem.run_bind, sizeOf_mkTy ht, hcs, hs, storeCells, Addr.add, run_store P _ _ _ _ h1, hc, hfz]
/-- One cell of a variable is written. -/
theorem does_store {T T0 : TypeId} {t : TyI} {x y : Operand} {id off : Nat} {cs : List A} {v : A} (ht : mkTy P T = some t) (hs : t.size = 1) (hx : e x = .px id off) (hy : e y = v) (h1 : v.one = true) (hl : look id β = some (.var T0 cs)) (hoff : off < cs.length) :
    Does P dst (.store T x y) ty e β .un [(id, .var T0 (cs.set off v))] [id] := by
  intro C γ hag ρ I w hm a hops o ho hd hty K Q hK
  have hl2 : look id γ = some (.var T0 cs) := (hag id (by simp)).trans hl
  obtain ⟨hb, hp⟩ := hops x (by simp [Op.operands])
  obtain ⟨hvb, hv⟩ := hops y (by simp [Op.operands])
  rw [hx] at hp
  rw [hy] at hv hvb
  obtain ⟨g, hg, hp⟩ := hp
  obtain ⟨g', us, k1, k2, k3, k4⟩ := var_cell hm hl2
  rw [hg] at k1
  injection k1 with k1; injection k1 with k1; injection k1 with k1
  subst k1
  have hlen := repAs_len k3
  have hin : off < us.size := by rw [← Array.length_toList]; omega
  have hcell : w.cell? ⟨g, off, none⟩ = some us[off] := by rw [cell_in k2, Array.getElem?_eq_getElem hin]
  have hfz : w.frozen? ⟨g, off, none⟩ = false := by simp [World.frozen?, k2]
  have hv1 : (a.eval y).oneCell' = true := repA_one hv h1
  have hgr := setCell_grown w ⟨g, off, none⟩ (a.eval y)
  have hmem := hm.set_box hl2 rfl (g := g) (by rw [hg]; rfl) hgr (b := .var T0 (cs.set off v)) (fun hx => ⟨g, us.setIfInBounds off (a.eval y), hg, setCell_at k2 _ _, by
    have := repAs_set (RepA.ext hx v _ hvb hv) (fun _ => h1) off (RepAs.ext hx true cs _ k4 k3)
    simpa using this⟩) (by
      have : A.insB γ (cs.set off v) := A.insB_of fun z hz => by
        rcases List.mem_or_eq_of_mem_set hz with h | h
        · exact A.insB_mem k4 z h
        · rw [h]; exact hvb
      exact A.insB_mono (fun i hi => dom_append hi) _ this)
  unfold Oper.wp
  have hrun : (execOp a.eval o).run P w = .ok .skip (w.setCell ⟨g, off, none⟩ (a.eval y)) := by
    simp [execOp, ho, hp, Instr.storeAt, Instr.sureAddr, Sem.run_bind, run_storeVar_one ht hs hcell hfz hv1]
  rw [hrun, Oper.upon_skip, hd]
  exact hK _ ρ I _ hmem.1 hmem.2 trivial trivial
theorem setCells_grown (b : Nat) : ∀ (vs : List Value) (o : Nat) (w : World), w.grownBy (w.setCells b o vs) (some b)
  | [], o, w => World.grownBy.refl w _
  | v :: r, o, w => by
    rw [World.setCells]
    have h1 := setCell_grown w ⟨b, o, none⟩ v
    have h2 := setCells_grown b r (o + 1) (w.setCell ⟨b, o, none⟩ v)
    exact ⟨h2.os.trans h1.os, h2.tape.trans h1.tape, h2.output.trans h1.output, Nat.le_trans h1.size h2.size, fun k hk hne => (h2.block k (Nat.lt_of_lt_of_le hk h1.size) hne).trans (h1.block k hk hne)⟩
theorem setCells_at {g : Nat} {T : TypeId} {fz : Nat × Nat} : ∀ (vs : List Value) (o : Nat) (w : World) (us : Array Value), w.heap[g]? = some (.cells us T fz) → o + vs.length ≤ us.size →
    ∃ us', (w.setCells g o vs).heap[g]? = some (.cells us' T fz) ∧ us'.toList = putAt us.toList o vs
  | [], o, w, us, h, hl => ⟨us, h, by simp [putAt]⟩
  | v :: r, o, w, us, h, hl => by
    rw [World.setCells]
    simp only [List.length_cons] at hl
    obtain ⟨us', h1, h2⟩ := setCells_at r (o + 1) (w.setCell ⟨g, o, none⟩ v) _ (setCell_at h o v) (by simp; omega)
    refine ⟨us', h1, ?_⟩
    rw [h2, Array.toList_setIfInBounds]
    unfold putAt
    have hlt : o < us.toList.length := by rw [Array.length_toList]; omega
    have hmin : (us.toList.take o).length = o := by rw [List.length_take]; omega
    rw [List.length_cons, List.drop_set_of_lt (by omega), List.take_set, List.take_succ_eq_append_getElem hlt, List.set_append_right _ _ (by omega), hmin, Nat.sub_self]
    simp [show o + 1 + r.length = o + (r.length + 1) by omega]
theorem repAs_putAt {ρ : Nat → Value} {I : Nat → Prop} {w : World} {o : Bool} {ds vs : List A} {l m : List Value} (h : RepAs ρ I w o ds l) (hv : RepAs ρ I w o vs m) (off : Nat) : RepAs ρ I w o (putAt ds off vs) (putAt l off m) := by
  unfold putAt
  rw [repAs_len hv]
  exact repAs_append (repAs_append (repAs_take _ h) hv) (repAs_drop _ h)
theorem repC_putAt {I : Nat → Prop} {w : World} {o : Bool} {ds vs : List D} {l m : List Value} (h : RepC I w o ds l) (hv : RepC I w o vs m) (off : Nat) : RepC I w o (putAt ds off vs) (putAt l off m) := by
  unfold putAt
  rw [repC_len hv]
  exact repC_append (repC_append (repC_take _ h) hv) (repC_drop _ h)
theorem putAt_length {α : Type} {cs vs : List α} {off : Nat} (h : off + vs.length ≤ cs.length) : (putAt cs off vs).length = cs.length := by
  unfold putAt; simp; omega
/-- A struct, or an array, is written into a variable. -/
theorem does_store_row {T T0 : TypeId} {t : TyI} {x y : Operand} {id off : Nat} {cs vs : List A} (ht : mkTy P T = some t) (hx : e x = .px id off) (hy : e y = .ag vs) (hs : vs.length = t.size) (hl : look id β = some (.var T0 cs)) (hoff : off + vs.length ≤ cs.length) :
    Does P dst (.store T x y) ty e β .un [(id, .var T0 (putAt cs off vs))] [id] := by
  intro C γ hag ρ I w hm a hops o ho hd hty K Q hK
  have hl2 : look id γ = some (.var T0 cs) := (hag id (by simp)).trans hl
  obtain ⟨hb, hp⟩ := hops x (by simp [Op.operands])
  obtain ⟨hvb, hv⟩ := hops y (by simp [Op.operands])
  rw [hx] at hp
  rw [hy] at hv hvb
  obtain ⟨g, hg, hp⟩ := hp
  obtain ⟨ws, hw, hv⟩ := hv
  obtain ⟨g', us, k1, k2, k3, k4⟩ := var_cell hm hl2
  rw [hg] at k1
  injection k1 with k1; injection k1 with k1; injection k1 with k1
  subst k1
  have hlen := repAs_len k3
  have hlen2 := repAs_len hv
  rw [Array.length_toList] at hlen hlen2
  have hthere : w.there g off ws.size := fun j hj => by
    refine ⟨?_, by simp [World.frozen?, k2]⟩
    rw [cell_in k2, Array.getElem?_eq_getElem (by omega)]; rfl
  obtain ⟨i, d, z, hi, _, _, hsz, _⟩ := mkTy_spec ht
  have hone : ws.all (·.oneCell') = true := Array.all_eq_true_iff_forall_mem.2 fun v hv' => repAs_one hv v (by simpa using hv')
  have hrun0 := run_storeAt_mid (P := P) w g off T ws hthere (by rw [hi]; simp; omega) hone
  have hgr := setCells_grown g ws.toList off w
  obtain ⟨us', e1, e2⟩ := setCells_at (g := g) ws.toList off w us k2 (by rw [Array.length_toList]; omega)
  have hmem := hm.set_box hl2 rfl (g := g) (by rw [hg]; rfl) hgr (b := .var T0 (putAt cs off vs)) (fun hx => ⟨g, us', hg, e1, by
    rw [e2]; exact repAs_putAt (RepAs.ext hx true cs _ k4 k3) (RepAs.ext hx true vs _ hvb hv) off⟩) (by
      have : A.insB γ (putAt cs off vs) := A.insB_of fun z hz => by
        unfold putAt at hz
        simp only [List.mem_append] at hz
        rcases hz with (h | h) | h
        · exact A.insB_mem k4 z (List.mem_of_mem_take h)
        · exact A.insB_mem hvb z h
        · exact A.insB_mem k4 z (List.mem_of_mem_drop h)
      exact A.insB_mono (fun i hi => dom_append hi) _ this)
  unfold Oper.wp
  have hrun : (execOp a.eval o).run P w = .ok .skip (w.setCells g off ws.toList) := by
    simp only [execOp, ho, hp, hw, Sem.run_bind, hrun0]
    rfl
  rw [hrun, Oper.upon_skip, hd]
  exact hK _ ρ I _ hmem.1 hmem.2 trivial trivial
theorem does_store_rowD {T T0 : TypeId} {t : TyI} {x y : Operand} {id off : Nat} {cs : List A} {vs : List D} (ht : mkTy P T = some t) (hx : e x = .px id off) (hy : e y = .d (.ag vs)) (hs : vs.length = t.size) (hl : look id β = some (.var T0 cs)) (hoff : off + vs.length ≤ cs.length) :
    Does P dst (.store T x y) ty e β .un [(id, .var T0 (putAt cs off (vs.map .d)))] [id] := by
  intro C γ hag ρ I w hm a hops o ho hd hty K Q hK
  have hy2 : ∀ u, RepA ρ I w (.d (.ag vs)) u → RepA ρ I w (.ag (vs.map .d)) u := fun u ⟨us, h1, h2⟩ => ⟨us, h1, repAs_of_C h2⟩
  refine does_store_row (P := P) (dst := dst) (ty := ty) (β := β) (e := fun z => if z matches .tmp _ then (if e z matches .d (.ag _) then .ag (A.cells (e z)) else e z) else (if e z matches .d (.ag _) then .ag (A.cells (e z)) else e z)) (x := x) (y := y) (cs := cs) (vs := vs.map .d) ht (by simp [hx]) (by simp [hy, A.cells]) (by simpa using hs) hl (by simpa using hoff) C γ hag ρ I w hm a (fun z hz => ?_) o ho hd hty K Q hK
  have hz := hops z hz
  simp only [ite_self]
  cases he : e z with
  | d d0 =>
    rw [he] at hz
    cases d0 with
    | ag cs0 => exact ⟨insB_map cs0, by obtain ⟨us, h1, h2⟩ := hz.2; exact ⟨us, h1, repAs_of_C h2⟩⟩
    | _ => exact hz
  | _ => rw [he] at hz; exact hz
end
end Go.Proofs.YtfplkakfakdfhaaDoor

