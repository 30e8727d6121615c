/-
  The pure layer: words of 32 and 64 bits, bytes. No condition.
-/
import Derived.Test.YtlpnnnmdkglkcaaDoorZB
import Derived.Test.YtlpnnnmdkglkcaaDoorZTl
import Derived.Laws.CopyRow
import Derived.Laws.IdiomCopy
import Derived.Laws.IdiomStrings
import Derived.Laws.BytesString
namespace Go.Proofs.YtlpnnnmdkglkcaaDoor
set_option linter.unusedSimpArgs false
set_option linter.unusedVariables false
open Go.RowKit

section
variable {P : Program} {dst : Option Nat} {ty : TypeId} {e : Operand → A} {β : Bx} {T T' : TypeId} {x y : Operand}
end
abbrev bA (b : List UInt8) : List A := (b.map u8D).map A.d
section
variable {P : Program} {dst : Option Nat} {ty : TypeId} {e : Operand → A} {β : Bx} {T T0 : TypeId} {x y : Operand}
end
end Go.Proofs.YtlpnnnmdkglkcaaDoor


/-
  The pure layer: arrays of bytes, sliced. No condition.
-/
namespace Go.Proofs.YtlpnnnmdkglkcaaDoor
set_option linter.unusedSimpArgs false
set_option linter.unusedVariables false
open Go.RowKit

abbrev byD (b : List UInt8) : D := .sl 1 (b.map fun c => [u8D c])
section
variable {P : Program} {dst : Option Nat} {ty : TypeId} {e : Operand → A} {β : Bx} {T T0 T1 : TypeId} {x y : Operand}
theorem does_alloc_b {fr : Nat} {t : TyI} {l : List UInt8} (ht : mkTy P T = some t) (hz : t.zero = l.map u8D) (hf : look fr β = none) : Does P (some fr) (.alloc T) ty e β (.px fr 0) [(fr, .var T (bA l))] [] := by
  have h := does_alloc (P := P) (ty := ty) (e := e) ht hf
  rwa [hz] at h
theorem repR_ones {I : Nat → Prop} {w : World} : ∀ {ds : List D} {us : List Value}, RepC I w true ds us → RepR I w 1 (ds.map fun d => [d]) us
  | [], _, h => h
  | d :: ds, _, ⟨u, us, h1, h2, h3, h4⟩ => ⟨[u], us, h1, rfl, ⟨u, [], rfl, h2, h3, rfl⟩, repR_ones h4⟩
theorem by_repC {I : Nat → Prop} {w : World} : ∀ {k : List UInt8} {xs : List Value}, RepR I w 1 (k.map fun c => [u8D c]) xs → xs = k.map (fun c => Value.int .u8 (c.toNat : Int))
  | [], _, h => h
  | c :: k, _, ⟨us, us', hx, h1, ⟨u, us2, hy, _, hu, hz⟩, h2⟩ => by
    have hu : u = .int .u8 (c.toNat : Int) := hu.1
    have hz : us2 = [] := hz
    rw [hx, hy, hu, hz, by_repC h2]; rfl
end
end Go.Proofs.YtlpnnnmdkglkcaaDoor


/-
  The pure layer: bytes and texts. No condition.
-/
namespace Go.Proofs.YtlpnnnmdkglkcaaDoor
set_option linter.unusedSimpArgs false
set_option linter.unusedVariables false
open Go.RowKit

abbrev byS (l : List UInt8) : ByteArray := ⟨l.toArray⟩
theorem by_cells {I : Nat → Prop} {w : World} {k : List UInt8} {v : Value} (h : RepD I w (byD k) v) : ∃ ad c, v = .slice ad k.length c ∧ (0 < k.length → ∃ g off, ad = some ⟨g, off, none⟩ ∧ ∀ j (hj : j < k.length), w.cell? ⟨g, off + j, none⟩ = some (.int .u8 (k[j].toNat : Int))) := by
  obtain ⟨ad, c, xs, h1, h2, h3, h4⟩ := h
  rw [List.length_map] at h1 h2 h4
  refine ⟨ad, c, h1, fun h0 => ?_⟩
  obtain ⟨g, off, e, _, hc⟩ := h4 h0
  refine ⟨g, off, e, fun j hj => hc j _ ?_⟩
  rw [by_repC h3, List.getElem?_map, List.getElem?_eq_getElem hj]
  rfl
theorem run_conv_bs {P : Program} {S el T : TypeId} {ts te tt : TyI} (hS : mkTy P S = some ts) (hkS : ts.kind = .slice el) (hE : mkTy P el = some te) (hkE : te.kind = .int .u8) (hT : mkTy P T = some tt) (hkT : tt.kind = .str) {w : World} {k : List UInt8} {ad : Option Addr} {c : Nat}
    (h : 0 < k.length → ∃ g off, ad = some ⟨g, off, none⟩ ∧ ∀ j (hj : j < k.length), w.cell? ⟨g, off + j, none⟩ = some (.int .u8 (k[j].toNat : Int))) : (convert S T (.slice ad k.length c)).run P w = .ok (.string (byS k)) w := by
  obtain ⟨_, d1, _, _, hd1, _, _, _, _, _, hk1⟩ := mkTy_spec hS
  obtain ⟨_, d2, _, _, hd2, _, _, _, _, _, hk2⟩ := mkTy_spec hE
  obtain ⟨_, d3, _, _, hd3, _, _, _, _, _, hk3⟩ := mkTy_spec hT
  have u1 : P.underlying S = some (.slice el) := by rw [hd1, kind_slice (hk1.symm.trans hkS)]
  have u2 : P.underlying el = some (.int .u8) := by rw [hd2, kind_int (hk2.symm.trans hkE)]
  have u3 : P.underlying T = some .string := by rw [hd3, kind_str (hk3.symm.trans hkT)]
  cases ad with
  | none =>
    have hk : k = [] := by
      rcases Nat.eq_zero_or_pos k.length with h0 | h0
      · exact List.eq_nil_of_length_eq_zero h0
      · obtain ⟨_, _, h1, _⟩ := h h0; cases h1
    subst hk
    rw [run_convert_bytes_string w S T el none _ c u1 u2 u3]
    simp [Conv.bytesToString]
    rfl
  | some a =>
    refine run_convert_bytes_back (P := P) w S T el a c k u1 u2 u3 fun j hj => ?_
    obtain ⟨g, off, h1, h2⟩ := h (by omega)
    injection h1 with h1
    subst h1
    rw [Addr.add_mid]
    exact h2 j hj
section
variable {P : Program} {dst : Option Nat} {ty : TypeId} {e : Operand → A} {β : Bx} {S T T0 el : TypeId} {x y : Operand} {ts te tt : TyI}
/-- string(b) -/
theorem does_conv_bs {k : List UInt8} (hS : mkTy P S = some ts) (hkS : ts.kind = .slice el) (hE : mkTy P el = some te) (hkE : te.kind = .int .u8) (hT : mkTy P T = some tt) (hkT : tt.kind = .str) (hx : e x = .d (byD k)) : Does P dst (.convert S T x) ty e β (.d (strD (byS k))) [] [] :=
  Does.of_run fun C γ _ ρ I w _ a hops o ho _ => by
    have h1 := (hops x (by simp [Op.operands])).2
    rw [hx] at h1
    obtain ⟨ad, c, h2, h3⟩ := by_cells h1
    refine ⟨.string (byS k), ?_, trivial, rfl, rfl⟩
    simp only [execOp, ho, h2, Sem.run_bind, run_conv_bs hS hkS hE hkE hT hkT h3]
    rfl
end
end Go.Proofs.YtlpnnnmdkglkcaaDoor


/-
  The pure layer: the smaller of two lengths; a part of a text of bytes. No condition.
-/
namespace Go.Proofs.YtlpnnnmdkglkcaaDoor
set_option linter.unusedSimpArgs false
set_option linter.unusedVariables false
open Go.RowKit

section
variable {P : Program} {dst : Option Nat} {ty : TypeId} {e : Operand → A} {β : Bx} {T : TypeId} {x y : Operand}
theorem does_min_nat {ts : Array TypeId} {a b : Nat} {p q : Int} (hx : e x = .d (iD p)) (hy : e y = .d (iD q)) (hp : p = a) (hq : q = b) : Does P dst (.call { callee := .builtin .min, args := #[x, y], argTypes := ts }) ty e β (.d (iD ((min a b : Nat) : Int))) [] [] := by
  have h := does_min (P := P) (dst := dst) (ty := ty) (β := β) (ts := ts) hx hy
  have e1 : (if q < p then q else p) = ((min a b : Nat) : Int) := by split <;> omega
  rwa [e1] at h
end
end Go.Proofs.YtlpnnnmdkglkcaaDoor


/-
  The pure layer: contracts whose (first) result is a slice of the caller's own; a row that is still nil. No condition.
-/
namespace Go.Proofs.YtlpnnnmdkglkcaaDoor
set_option linter.unusedSimpArgs false
set_option linter.unusedVariables false
open Go.RowKit

def mkRes (us : List Value) : Value := if h : us.toArray.size = 1 then us.toArray[0] else .tuple us.toArray
def NotMine (I : Nat → Prop) (w w' : World) (v : Value) : Nat → Prop := fun g => ((I g ∨ w.heap.size ≤ g) ∧ g < w'.heap.size) ∧ v.ownBlock ≠ some g
/-- A call's contract: a new slice of so many rows, and further data. -/
structure PCO (P : Program) (f : FuncId) (ds : List D) (E : TypeId) (sz : Nat) (es : List (List D)) (rest : List D) : Prop where
  enters : Enters P f
  calls : ∀ (I : Nat → Prop) (w : World) (vs : Array Value), okBlocks I w → RepC I w false ds vs.toList →
    Calls P f vs w fun e w' => ∃ v us xs, e = .returned (mkRes (v :: us)) ∧ w'.ownsRow 0 E sz v es.length xs ∧ (∀ g, v.ownBlock = some g → w.heap.size ≤ g) ∧
      RepR (NotMine I w w' v) w' sz es xs ∧ RepC (NotMine I w w' v) w' false rest us ∧ Below w.heap.size w w'
section
variable {P : Program}
theorem PCO.args {f : FuncId} {ds ds' : List D} {E : TypeId} {sz : Nat} {es : List (List D)} {rest : List D} (h : PCO P f ds E sz es rest) (hs : SubDs ds' ds) : PCO P f ds' E sz es rest :=
  ⟨h.enters, fun I w vs hI hv => h.calls I w vs hI (hs.rep hv)⟩
end
section
variable {P : Program} {fr : Nat} {dst : Option Nat} {ty : TypeId} {e : Operand → A} {β : Bx}
end
end Go.Proofs.YtlpnnnmdkglkcaaDoor


/-
  The pure layer: a slice of one's own as an element of another one; numbers put together out of bytes. No condition.
-/
namespace Go.Proofs.YtlpnnnmdkglkcaaDoor
set_option linter.unusedSimpArgs false
set_option linter.unusedVariables false
open Go.RowKit

def setE (e : Operand → A) (t : Nat) (v : A) : Operand → A
  | .tmp t' => if t' = t then v else e (.tmp t')
  | y => e y
section
variable {P : Program} {fr : Nat} {dst : Option Nat} {ty : TypeId} {e : Operand → A} {β : Bx} {T T' : TypeId} {x y : Operand}
/-- An operand that is a slice of one's own is read as data from now on. -/
theorem does_frz {op : Op} (t : Nat) {id n sz : Nat} {es : List (List D)} {v : A} {ups : Bx} {rd : List Nat} (hx : e (.tmp t) = .ow id n) (hro : rowsOf β id = some (sz, es))
    (h : Does P dst op ty (setE e t (.d (.sl sz es))) ([(id, .frz sz es)] ++ β) v ups rd) : Does P dst op ty e β v (ups ++ [(id, .frz sz es)]) (id :: rd) := by
  intro C γ hag ρ I w hm a hops o ho hd hty K Q hK
  have hid : look id γ = look id β := hag id (by simp)
  have hro2 : rowsOf γ id = some (sz, es) := (rowsOf_agree hid).trans hro
  obtain ⟨I', m1, x1, r1⟩ := hm.freeze_any hro2
  refine h C ([(id, .frz sz es)] ++ γ) (fun j hj => ?_) ρ I' w m1 a (fun z hz => ?_) o ho hd hty K Q (fun vv ρ' I2 w' hm' hx' hb' hr' => ?_)
  · rw [look_append, look_append]
    by_cases hji : j = id
    · subst hji; simp [look_cons]
    · rw [look_cons, if_neg (Ne.symm hji)]
      show look j γ = look j β
      refine hag j ?_
      simp only [List.map_append, List.mem_append, List.mem_cons, List.cons_append] at hj ⊢
      rcases hj with hj | hj
      · exact .inr (.inl hj)
      · exact .inr (.inr (.inl hj))
  · obtain ⟨h1, h2⟩ := hops z hz
    have h1' : (e z).inB ([(id, Box.frz sz es)] ++ γ) := A.inB_mono (fun i hi => dom_append hi) _ h1
    have h2' := RepA.ext x1 _ _ h1 h2
    unfold setE
    split
    · rename_i t'
      split
      · rename_i e1
        subst e1
        rw [hx] at h2
        refine ⟨trivial, ?_⟩
        show RepD I' w (.sl sz es) _
        rw [h2.1]; exact r1
      · exact ⟨h1', h2'⟩
    · exact ⟨h1', h2'⟩
  · refine hK vv ρ' I2 w' (by rw [List.append_assoc]; exact hm') (x1.trans hx' (fun i hi => dom_append hi)) ?_ hr'
    rw [List.append_assoc]; exact hb'
end
section
variable {P : Program} {dst : Option Nat} {ty : TypeId} {e : Operand → A} {β : Bx} {T T' : TypeId} {x y : Operand}
end
end Go.Proofs.YtlpnnnmdkglkcaaDoor


/-
  The pure layer: a part of a slice with a bound on its capacity; parts of lists. No condition.
-/
namespace Go.Proofs.YtlpnnnmdkglkcaaDoor
set_option linter.unusedSimpArgs false
set_option linter.unusedVariables false
open Go.RowKit

section
variable {P : Program} {dst : Option Nat} {ty : TypeId} {e : Operand → A} {β : Bx} {T : TypeId} {x : Operand}
theorem does_slice_m {α : Type} {f : α → List D} {L L' : List α} {t te : TyI} {el : TypeId} {lo hi : Option Operand} {sz l h : Nat} (ht : mkTy P T = some t) (hk : t.kind = .slice el) (hte : mkTy P el = some te) (hx : e x = .d (.sl sz (L.map f))) (hsz : te.size = sz) (hl : loIs e l lo) (hh : hiIs e h L.length hi) (h1 : l ≤ h) (h2 : h ≤ L.length) (hc : (L.take h).drop l = L') :
    Does P dst (.slice T x lo hi none) ty e β (.d (.sl sz (L'.map f))) [] [] := by
  have hd := does_slice (P := P) (dst := dst) (ty := ty) (β := β) ht hk hte hx hsz hl (by rw [List.length_map]; exact hh) h1 (by rw [List.length_map]; exact h2)
  rwa [← List.map_take, ← List.map_drop, hc] at hd
end
end Go.Proofs.YtlpnnnmdkglkcaaDoor

