/-
  The pure layer: words of 32 and 64 bits, bytes. No condition.
-/
import Derived.Test.YtpaccaojgbfjdaaDoorZB
import Derived.Test.YtpaccaojgbfjdaaDoorZTl
import Derived.Laws.CopyRow
import Derived.Laws.IdiomCopy
import Derived.Laws.IdiomStrings
import Derived.Laws.BytesString
namespace Go.Proofs.YtpaccaojgbfjdaaDoor
set_option linter.unusedSimpArgs false
set_option linter.unusedVariables false
open Go.RowKit

section
variable {P : Program} {dst : Option Nat} {ty : TypeId} {e : Operand → A} {β : Bx} {T T' : TypeId} {x y : Operand}
end
section
variable {P : Program} {dst : Option Nat} {ty : TypeId} {e : Operand → A} {β : Bx} {T T0 : TypeId} {x y : Operand}
end
end Go.Proofs.YtpaccaojgbfjdaaDoor


/-
  The pure layer: arrays of bytes, sliced. No condition.
-/
namespace Go.Proofs.YtpaccaojgbfjdaaDoor
set_option linter.unusedSimpArgs false
set_option linter.unusedVariables false
open Go.RowKit

abbrev byD (b : List UInt8) : D := .sl 1 (b.map fun c => [u8D c])
theorem run_slice_arr {P : Program} {T el : TypeId} {t : TyI} {len esz : Nat} {er : Bool} (ht : mkTy P T = some t) (hk : t.kind = .array len el esz er) (hs : esz ≠ 0) {hi : Option Value} {h : Nat} {k : IntKind} (hh : hi = some (.int k (h : Int)) ∨ (hi = none ∧ h = len)) (hl : h ≤ len) (g : Nat) (w : World) :
    (Instr.sliceAt T (.pointer (some ⟨g, 0, none⟩)) none hi none).run P w = .ok (.slice (some ⟨g, 0, none⟩) h len) w := by
  obtain ⟨i, d, z, _, hd, _, _, _, _, _, hkd⟩ := mkTy_spec ht
  obtain ⟨rfl, rfl, rfl⟩ := kind_array (hkd.symm.trans hk)
  have hadd : (⟨g, 0, none⟩ : Addr).add (0 * P.cellsOf el) = ⟨g, 0, none⟩ := by rw [Nat.zero_mul]; exact Addr.add_mid g 0 0
  rcases hh with rfl | ⟨rfl, rfl⟩
  · simp [Instr.sliceAt, Instr.sureAddr, run_underlying hd, Instr.sliceBounds, Instr.sliceBound, asIntOf, Sem.run_bind, run_sizeOf hs, hadd, hl]
    exact fun _ => Addr.add_mid g 0 0
  · simp [Instr.sliceAt, Instr.sureAddr, run_underlying hd, Instr.sliceBounds, Sem.run_bind, run_sizeOf hs, hadd]
    exact fun _ => Addr.add_mid g 0 0
section
variable {P : Program} {dst : Option Nat} {ty : TypeId} {e : Operand → A} {β : Bx} {T T0 T1 : TypeId} {x y : Operand}
/-- A slice of an array that lies in a variable. -/
theorem does_slice_sx {t : TyI} {el : TypeId} {len esz id h : Nat} {er : Bool} {hi : Option Operand} (ht : mkTy P T = some t) (hk : t.kind = .array len el esz er) (hs : esz ≠ 0) (hx : e x = .px id 0) (hh : hiIs e h len hi) (hl : h ≤ len) :
    Does P dst (.slice T x none hi none) ty e β (.sx id h len) [] [] :=
  Does.of_run fun C γ _ ρ I w _ a hops o ho _ => by
    obtain ⟨hb, hp⟩ := hops x (by simp [Op.operands])
    rw [hx] at hb hp
    obtain ⟨g, hg, hp⟩ := hp
    obtain ⟨k2, v2⟩ := hi_val (a := a) hh fun y hy => (hops y (by cases hi <;> simp_all [Op.operands])).2
    refine ⟨_, ?_, hb, g, hg, rfl⟩
    simp only [execOp, ho, hp, Sem.run_bind, Option.map_none, run_slice_arr ht hk hs v2 hl g w]
    rfl
end
end Go.Proofs.YtpaccaojgbfjdaaDoor


/-
  The pure layer: bytes and texts. No condition.
-/
namespace Go.Proofs.YtpaccaojgbfjdaaDoor
set_option linter.unusedSimpArgs false
set_option linter.unusedVariables false
open Go.RowKit

section
variable {P : Program} {dst : Option Nat} {ty : TypeId} {e : Operand → A} {β : Bx} {S T T0 el : TypeId} {x y : Operand} {ts te tt : TyI}
end
end Go.Proofs.YtpaccaojgbfjdaaDoor


/-
  The pure layer: the smaller of two lengths; a part of a text of bytes. No condition.
-/
namespace Go.Proofs.YtpaccaojgbfjdaaDoor
set_option linter.unusedSimpArgs false
set_option linter.unusedVariables false
open Go.RowKit

section
variable {P : Program} {dst : Option Nat} {ty : TypeId} {e : Operand → A} {β : Bx} {T : TypeId} {x y : Operand}
theorem does_min_nat {ts : Array TypeId} {a b : Nat} {p q : Int} (hx : e x = .d (iD p)) (hy : e y = .d (iD q)) (hp : p = a) (hq : q = b) : Does P dst (.call { callee := .builtin .min, args := #[x, y], argTypes := ts }) ty e β (.d (iD ((min a b : Nat) : Int))) [] [] := by
  have h := does_min (P := P) (dst := dst) (ty := ty) (β := β) (ts := ts) hx hy
  have e1 : (if q < p then q else p) = ((min a b : Nat) : Int) := by split <;> omega
  rwa [e1] at h
end
end Go.Proofs.YtpaccaojgbfjdaaDoor


/-
  The pure layer: contracts whose (first) result is a slice of the caller's own; a row that is still nil. No condition.
-/
namespace Go.Proofs.YtpaccaojgbfjdaaDoor
set_option linter.unusedSimpArgs false
set_option linter.unusedVariables false
open Go.RowKit

def mkRes (us : List Value) : Value := if h : us.toArray.size = 1 then us.toArray[0] else .tuple us.toArray
def NotMine (I : Nat → Prop) (w w' : World) (v : Value) : Nat → Prop := fun g => ((I g ∨ w.heap.size ≤ g) ∧ g < w'.heap.size) ∧ v.ownBlock ≠ some g
/-- A call's contract: a new slice of so many rows, and further data. -/
structure PCO (P : Program) (f : FuncId) (ds : List D) (E : TypeId) (sz : Nat) (es : List (List D)) (rest : List D) : Prop where
  enters : Enters P f
  calls : ∀ (I : Nat → Prop) (w : World) (vs : Array Value), okBlocks I w → RepC I w false ds vs.toList →
    Calls P f vs w fun e w' => ∃ v us xs, e = .returned (mkRes (v :: us)) ∧ w'.ownsRow 0 E sz v es.length xs ∧ (∀ g, v.ownBlock = some g → w.heap.size ≤ g) ∧
      RepR (NotMine I w w' v) w' sz es xs ∧ RepC (NotMine I w w' v) w' false rest us ∧ Below w.heap.size w w'
section
variable {P : Program}
theorem PCO.args {f : FuncId} {ds ds' : List D} {E : TypeId} {sz : Nat} {es : List (List D)} {rest : List D} (h : PCO P f ds E sz es rest) (hs : SubDs ds' ds) : PCO P f ds' E sz es rest :=
  ⟨h.enters, fun I w vs hI hv => h.calls I w vs hI (hs.rep hv)⟩
end
section
variable {P : Program} {fr : Nat} {dst : Option Nat} {ty : TypeId} {e : Operand → A} {β : Bx}
end
end Go.Proofs.YtpaccaojgbfjdaaDoor


/-
  The pure layer: a slice of one's own as an element of another one; numbers put together out of bytes. No condition.
-/
namespace Go.Proofs.YtpaccaojgbfjdaaDoor
set_option linter.unusedSimpArgs false
set_option linter.unusedVariables false
open Go.RowKit

def setE (e : Operand → A) (t : Nat) (v : A) : Operand → A
  | .tmp t' => if t' = t then v else e (.tmp t')
  | y => e y
section
variable {P : Program} {fr : Nat} {dst : Option Nat} {ty : TypeId} {e : Operand → A} {β : Bx} {T T' : TypeId} {x y : Operand}
/-- An operand that is a slice of one's own is read as data from now on. -/
theorem does_frz {op : Op} (t : Nat) {id n sz : Nat} {es : List (List D)} {v : A} {ups : Bx} {rd : List Nat} (hx : e (.tmp t) = .ow id n) (hro : rowsOf β id = some (sz, es))
    (h : Does P dst op ty (setE e t (.d (.sl sz es))) ([(id, .frz sz es)] ++ β) v ups rd) : Does P dst op ty e β v (ups ++ [(id, .frz sz es)]) (id :: rd) := by
  intro C γ hag ρ I w hm a hops o ho hd hty K Q hK
  have hid : look id γ = look id β := hag id (by simp)
  have hro2 : rowsOf γ id = some (sz, es) := (rowsOf_agree hid).trans hro
  obtain ⟨I', m1, x1, r1⟩ := hm.freeze_any hro2
  refine h C ([(id, .frz sz es)] ++ γ) (fun j hj => ?_) ρ I' w m1 a (fun z hz => ?_) o ho hd hty K Q (fun vv ρ' I2 w' hm' hx' hb' hr' => ?_)
  · rw [look_append, look_append]
    by_cases hji : j = id
    · subst hji; simp [look_cons]
    · rw [look_cons, if_neg (Ne.symm hji)]
      show look j γ = look j β
      refine hag j ?_
      simp only [List.map_append, List.mem_append, List.mem_cons, List.cons_append] at hj ⊢
      rcases hj with hj | hj
      · exact .inr (.inl hj)
      · exact .inr (.inr (.inl hj))
  · obtain ⟨h1, h2⟩ := hops z hz
    have h1' : (e z).inB ([(id, Box.frz sz es)] ++ γ) := A.inB_mono (fun i hi => dom_append hi) _ h1
    have h2' := RepA.ext x1 _ _ h1 h2
    unfold setE
    split
    · rename_i t'
      split
      · rename_i e1
        subst e1
        rw [hx] at h2
        refine ⟨trivial, ?_⟩
        show RepD I' w (.sl sz es) _
        rw [h2.1]; exact r1
      · exact ⟨h1', h2'⟩
    · exact ⟨h1', h2'⟩
  · refine hK vv ρ' I2 w' (by rw [List.append_assoc]; exact hm') (x1.trans hx' (fun i hi => dom_append hi)) ?_ hr'
    rw [List.append_assoc]; exact hb'
end
section
variable {P : Program} {dst : Option Nat} {ty : TypeId} {e : Operand → A} {β : Bx} {T T' : TypeId} {x y : Operand}
end
end Go.Proofs.YtpaccaojgbfjdaaDoor


/-
  The pure layer: a part of a slice with a bound on its capacity; parts of lists. No condition.
-/
namespace Go.Proofs.YtpaccaojgbfjdaaDoor
set_option linter.unusedSimpArgs false
set_option linter.unusedVariables false
open Go.RowKit

section
variable {P : Program} {dst : Option Nat} {ty : TypeId} {e : Operand → A} {β : Bx} {T : TypeId} {x : Operand}
theorem slice_rep3 {I : Nat → Prop} {w : World} {sz : Nat} {es : List (List D)} {ad : Option Addr} {c l h m : Nat} {n : Nat} (hr : RepD I w (.sl sz es) (.slice ad n c)) (h1 : l ≤ h) (h2 : h ≤ n) (h3 : h ≤ m) :
    RepD I w (.sl sz ((es.take h).drop l)) (.slice (if m = l then ad else ad.map (·.add (l * sz))) (h - l) (m - l)) := by
  obtain ⟨hn, hc, xs, hR, hg⟩ := repD_sl hr
  have hlen : ((es.take h).drop l).length = h - l := by rw [List.length_drop, List.length_take]; omega
  refine ⟨_, m - l, (xs.take (h * sz)).drop (l * sz), by rw [hlen], by rw [hlen]; omega, repR_drop l (repR_take h hR), fun h0 => ?_⟩
  rw [hlen] at h0
  obtain ⟨g, off, rfl, hI, hcell⟩ := hg (by omega)
  rw [if_neg (by omega)]
  refine ⟨g, off + l * sz, by simp [Addr.add_mid], hI, fun j u hu => ?_⟩
  rw [List.getElem?_drop, List.getElem?_take] at hu
  split at hu
  · have := hcell _ u hu
    rwa [Nat.add_assoc]
  · cases hu
theorem run_slice3 {t te : TyI} {el : TypeId} (ht : mkTy P T = some t) (hk : t.kind = .slice el) (hte : mkTy P el = some te) {ad : Option Addr} {c l h m nn : Nat} {lo : Option Value} {k1 k2 k3 : IntKind} (hlo : lo = some (.int k1 (l : Int)) ∨ (lo = none ∧ l = 0))
    (h1 : l ≤ h) (h2 : h ≤ m) (h3 : m ≤ c) (w : World) : (Instr.sliceAt T (.slice ad nn c) lo (some (.int k2 (h : Int))) (some (.int k3 (m : Int)))).run P w = .ok (.slice (if m = l then ad else ad.map (·.add (l * te.size))) (h - l) (m - l)) w := by
  obtain ⟨i, d, z, _, hu, _, _, _, _, _, hkd⟩ := mkTy_spec ht
  have hu2 : P.underlying T = some (.slice el) := by rw [hu, kind_slice (hkd.symm.trans hk)]
  have b0 : ∀ c', (Instr.sliceBound (.int k3 (m : Int)) c c').run P w = .ok m w := fun c' => bound_run rfl h3 c' w
  have b1 : ∀ c', (Instr.sliceBound (.int k2 (h : Int)) m c').run P w = .ok h w := fun c' => bound_run rfl h2 c' w
  have b2 : ∀ c', (Instr.sliceBound (.int k1 (l : Int)) h c').run P w = .ok l w := fun c' => bound_run rfl h1 c' w
  rcases hlo with rfl | ⟨rfl, rfl⟩ <;> simp [Instr.sliceAt, Instr.slice, Instr.sliceBounds, Sem.run_bind, run_underlying hu2, b0, b1, b2, sizeOf_mkTy hte]
end
end Go.Proofs.YtpaccaojgbfjdaaDoor

