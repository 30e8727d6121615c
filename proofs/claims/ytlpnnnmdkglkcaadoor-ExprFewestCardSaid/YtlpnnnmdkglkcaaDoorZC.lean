/-
  The pure layer: words of 32 and 64 bits, bytes. No condition.
-/
import Derived.Test.YtlpnnnmdkglkcaaDoorZB
import Derived.Test.YtlpnnnmdkglkcaaDoorZTl
import Derived.Laws.CopyRow
import Derived.Laws.IdiomCopy
import Derived.Laws.IdiomStrings
import Derived.Laws.BytesString
set_option linter.unusedSimpArgs false
set_option linter.unusedVariables false
namespace Go.Proofs.YtlpnnnmdkglkcaaDoor
open Go.RowKit

section
variable {P : Program} {dst : Option Nat} {ty : TypeId} {e : Operand → A} {β : Bx} {T T' : TypeId} {x y : Operand}
end
section
variable {P : Program} {dst : Option Nat} {ty : TypeId} {e : Operand → A} {β : Bx} {T T0 : TypeId} {x y : Operand}
end
end Go.Proofs.YtlpnnnmdkglkcaaDoor


/-
  The pure layer: arrays of bytes, sliced. No condition.
-/
namespace Go.Proofs.YtlpnnnmdkglkcaaDoor
open Go.RowKit

section
variable {P : Program} {dst : Option Nat} {ty : TypeId} {e : Operand → A} {β : Bx} {T T0 T1 : TypeId} {x y : Operand}
end
end Go.Proofs.YtlpnnnmdkglkcaaDoor


/-
  The pure layer: bytes and texts. No condition.
-/
namespace Go.Proofs.YtlpnnnmdkglkcaaDoor
open Go.RowKit

section
variable {P : Program} {dst : Option Nat} {ty : TypeId} {e : Operand → A} {β : Bx} {S T T0 el : TypeId} {x y : Operand} {ts te tt : TyI}
end
end Go.Proofs.YtlpnnnmdkglkcaaDoor


/-
  The pure layer: the smaller of two lengths; a part of a text of bytes. No condition.
-/
namespace Go.Proofs.YtlpnnnmdkglkcaaDoor
open Go.RowKit

section
variable {P : Program} {dst : Option Nat} {ty : TypeId} {e : Operand → A} {β : Bx} {T : TypeId} {x y : Operand}
theorem does_min_nat {ts : Array TypeId} {a b : Nat} {p q : Int} (hx : e x = .d (iD p)) (hy : e y = .d (iD q)) (hp : p = a) (hq : q = b) : Does P dst (.call { callee := .builtin .min, args := #[x, y], argTypes := ts }) ty e β (.d (iD ((min a b : Nat) : Int))) [] [] := by
  have h := does_min (P := P) (dst := dst) (ty := ty) (β := β) (ts := ts) hx hy
  have e1 : (if q < p then q else p) = ((min a b : Nat) : Int) := by split <;> omega
  rwa [e1] at h
end
end Go.Proofs.YtlpnnnmdkglkcaaDoor


/-
  The pure layer: contracts whose (first) result is a slice of the caller's own; a row that is still nil. No condition.
-/
namespace Go.Proofs.YtlpnnnmdkglkcaaDoor
open Go.RowKit

def mkRes (us : List Value) : Value := if h : us.toArray.size = 1 then us.toArray[0] else .tuple us.toArray
def NotMine (I : Nat → Prop) (w w' : World) (v : Value) : Nat → Prop := fun g => ((I g ∨ w.heap.size ≤ g) ∧ g < w'.heap.size) ∧ v.ownBlock ≠ some g
structure PCO (P : Program) (f : FuncId) (ds : List D) (E : TypeId) (sz : Nat) (es : List (List D)) (rest : List D) : Prop where
  enters : qEG P f
  calls : ∀ (I : Nat → Prop) (w : World) (vs : Array Value), okBlocks I w → RepC I w false ds vs.toList →
    Calls P f vs w fun e w' => ∃ v us xs, e = .returned (mkRes (v :: us)) ∧ w'.ownsRow 0 E sz v es.length xs ∧ (∀ g, v.ownBlock = some g → w.heap.size ≤ g) ∧
      RepR (NotMine I w w' v) w' sz es xs ∧ RepC (NotMine I w w' v) w' false rest us ∧ Below w.heap.size w w'
section
variable {P : Program}
theorem PCO.args {f : FuncId} {ds ds' : List D} {E : TypeId} {sz : Nat} {es : List (List D)} {rest : List D} (h : PCO P f ds E sz es rest) (hs : qCt ds' ds) : PCO P f ds' E sz es rest :=
  ⟨h.enters, fun I w vs hI hv => h.calls I w vs hI (hs.rep hv)⟩
end
section
variable {P : Program} {fr : Nat} {dst : Option Nat} {ty : TypeId} {e : Operand → A} {β : Bx}
theorem qEB {x : Operand} {vs : List A} {i : Nat} {v : A} (hx : e x = .tu vs) (hi : vs[i]? = some v) : Does P dst (.extract x i) ty e β v [] [] := by
  intro C γ hag ρ I w hm a hops o ho hd hty K Q hK
  obtain ⟨hb, hr⟩ := hops x (by simp [Op.operands])
  rw [hx] at hb hr
  obtain ⟨us, h1, h2⟩ := hr
  obtain ⟨u, h3, h4, _⟩ := qCe h2 hi
  have h3 : us[i]? = some u := by simpa using h3
  unfold Oper.wp
  have hrun : (execOp a.eval o).run P w = .ok (.value u) w := by
    simp [execOp, ho, h1, Instr.extract, h3, Sem.run_bind]
  rw [hrun, Oper.upon_value, hd]
  exact hK u ρ I w (by simpa using hm) (Ext.refl _ _ _ _) (by simpa using A.insB_mem hb v (List.mem_of_getElem? hi)) h4
end
end Go.Proofs.YtlpnnnmdkglkcaaDoor


/-
  The pure layer: a slice of one's own as an element of another one; numbers put together out of bytes. No condition.
-/
namespace Go.Proofs.YtlpnnnmdkglkcaaDoor
open Go.RowKit

def setE (e : Operand → A) (t : Nat) (v : A) : Operand → A
  | .tmp t' => if t' = t then v else e (.tmp t')
  | y => e y
section
variable {P : Program} {fr : Nat} {dst : Option Nat} {ty : TypeId} {e : Operand → A} {β : Bx} {T T' : TypeId} {x y : Operand}
theorem does_frz {op : Op} (t : Nat) {id n sz : Nat} {es : List (List D)} {v : A} {ups : Bx} {rd : List Nat} (hx : e (.tmp t) = .ow id n) (hro : qBv β id = some (sz, es))
    (h : Does P dst op ty (setE e t (.d (.sl sz es))) ([(id, .frz sz es)] ++ β) v ups rd) : Does P dst op ty e β v (ups ++ [(id, .frz sz es)]) (id :: rd) := by
  intro C γ hag ρ I w hm a hops o ho hd hty K Q hK
  have hid : look id γ = look id β := hag id (by simp)
  have hro2 : qBv γ id = some (sz, es) := (qDh hid).trans hro
  obtain ⟨I', m1, x1, r1⟩ := hm.freeze_any hro2
  refine h C ([(id, .frz sz es)] ++ γ) (fun j hj => ?_) ρ I' w m1 a (fun z hz => ?_) o ho hd hty K Q (fun vv ρ' I2 w' hm' hx' hb' hr' => ?_)
  · rw [qAI, qAI]
    by_cases hji : j = id
    · subst hji; simp [qA6]
    · rw [qA6, if_neg (Ne.symm hji)]
      show look j γ = look j β
      refine hag j ?_
      simp only [List.map_append, List.mem_append, List.mem_cons, List.cons_append] at hj ⊢
      rcases hj with hj | hj
      · exact .inr (.inl hj)
      · exact .inr (.inr (.inl hj))
  · obtain ⟨h1, h2⟩ := hops z hz
    have h1' : (e z).inB ([(id, Box.frz sz es)] ++ γ) := A.inB_mono (fun i hi => qBy hi) _ h1
    have h2' := RepA.ext x1 _ _ h1 h2
    unfold setE
    split
    · rename_i t'
      split
      · rename_i e1
        subst e1
        rw [hx] at h2
        refine ⟨trivial, ?_⟩
        show RepD I' w (.sl sz es) _
        rw [h2.1]; exact r1
      · exact ⟨h1', h2'⟩
    · exact ⟨h1', h2'⟩
  · refine hK vv ρ' I2 w' (by rw [List.append_assoc]; exact hm') (x1.trans hx' (fun i hi => qBy hi)) ?_ hr'
    rw [List.append_assoc]; exact hb'
end
section
variable {P : Program} {dst : Option Nat} {ty : TypeId} {e : Operand → A} {β : Bx} {T T' : TypeId} {x y : Operand}
end
end Go.Proofs.YtlpnnnmdkglkcaaDoor


/-
  The pure layer: a part of a slice with a bound on its capacity; parts of lists. No condition.
-/
namespace Go.Proofs.YtlpnnnmdkglkcaaDoor
open Go.RowKit

section
variable {P : Program} {dst : Option Nat} {ty : TypeId} {e : Operand → A} {β : Bx} {T : TypeId} {x : Operand}
end
end Go.Proofs.YtlpnnnmdkglkcaaDoor

