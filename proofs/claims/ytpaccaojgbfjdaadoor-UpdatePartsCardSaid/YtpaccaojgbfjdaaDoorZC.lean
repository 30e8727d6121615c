/-
  The pure layer: words of 32 and 64 bits, bytes. No condition.
-/
import Derived.Test.YtpaccaojgbfjdaaDoorZB
import Derived.Test.YtpaccaojgbfjdaaDoorZTl
import Derived.Laws.CopyRow
import Derived.Laws.IdiomCopy
import Derived.Laws.IdiomStrings
import Derived.Laws.BytesString
set_option linter.unusedSimpArgs false
set_option linter.unusedVariables false
namespace Go.Proofs.YtpaccaojgbfjdaaDoor
open Go.RowKit

section
variable {P : Program} {dst : Option Nat} {ty : TypeId} {e : Operand → A} {β : Bx} {T T' : TypeId} {x y : Operand}
end
section
variable {P : Program} {dst : Option Nat} {ty : TypeId} {e : Operand → A} {β : Bx} {T T0 : TypeId} {x y : Operand}
end
end Go.Proofs.YtpaccaojgbfjdaaDoor


/-
  The pure layer: arrays of bytes, sliced. No condition.
-/
namespace Go.Proofs.YtpaccaojgbfjdaaDoor
open Go.RowKit

theorem run_slice_arr {P : Program} {T el : TypeId} {t : TyI} {len esz : Nat} {er : Bool} (ht : mkTy P T = some t) (hk : t.kind = .array len el esz er) (hs : esz ≠ 0) {hi : Option Value} {h : Nat} {k : IntKind} (hh : hi = some (.int k (h : Int)) ∨ (hi = none ∧ h = len)) (hl : h ≤ len) (g : Nat) (w : World) :
    (Instr.sliceAt T (.pointer (some ⟨g, 0, none⟩)) none hi none).run P w = .ok (.slice (some ⟨g, 0, none⟩) h len) w := by
  obtain ⟨i, d, z, _, hd, _, _, _, _, _, hkd⟩ := qBu ht
  obtain ⟨rfl, rfl, rfl⟩ := qDM (hkd.symm.trans hk)
  have hadd : (⟨g, 0, none⟩ : Addr).add (0 * P.cellsOf el) = ⟨g, 0, none⟩ := by rw [Nat.zero_mul]; exact Addr.add_mid g 0 0
  rcases hh with rfl | ⟨rfl, rfl⟩
  · simp [Instr.sliceAt, Instr.sureAddr, run_underlying hd, Instr.sliceBounds, Instr.sliceBound, asIntOf, Sem.run_bind, qCY hs, hadd, hl]
    exact fun _ => Addr.add_mid g 0 0
  · simp [Instr.sliceAt, Instr.sureAddr, run_underlying hd, Instr.sliceBounds, Sem.run_bind, qCY hs, hadd]
    exact fun _ => Addr.add_mid g 0 0
section
variable {P : Program} {dst : Option Nat} {ty : TypeId} {e : Operand → A} {β : Bx} {T T0 T1 : TypeId} {x y : Operand}
theorem qCc {t : TyI} {el : TypeId} {len esz id h : Nat} {er : Bool} {hi : Option Operand} (ht : mkTy P T = some t) (hk : t.kind = .array len el esz er) (hs : esz ≠ 0) (hx : e x = .px id 0) (hh : hiIs e h len hi) (hl : h ≤ len) :
    Does P dst (.slice T x none hi none) ty e β (.sx id h len) [] [] :=
  Does.of_run fun C γ _ ρ I w _ a hops o ho _ => by
    obtain ⟨hb, hp⟩ := hops x (by simp [Op.operands])
    rw [hx] at hb hp
    obtain ⟨g, hg, hp⟩ := hp
    obtain ⟨k2, v2⟩ := hi_val (a := a) hh fun y hy => (hops y (by cases hi <;> simp_all [Op.operands])).2
    refine ⟨_, ?_, hb, g, hg, rfl⟩
    simp only [execOp, ho, hp, Sem.run_bind, Option.map_none, run_slice_arr ht hk hs v2 hl g w]
    rfl
end
end Go.Proofs.YtpaccaojgbfjdaaDoor


/-
  The pure layer: bytes and texts. No condition.
-/
namespace Go.Proofs.YtpaccaojgbfjdaaDoor
open Go.RowKit

section
variable {P : Program} {dst : Option Nat} {ty : TypeId} {e : Operand → A} {β : Bx} {S T T0 el : TypeId} {x y : Operand} {ts te tt : TyI}
end
end Go.Proofs.YtpaccaojgbfjdaaDoor


/-
  The pure layer: the smaller of two lengths; a part of a text of bytes. No condition.
-/
namespace Go.Proofs.YtpaccaojgbfjdaaDoor
open Go.RowKit

section
variable {P : Program} {dst : Option Nat} {ty : TypeId} {e : Operand → A} {β : Bx} {T : TypeId} {x y : Operand}
theorem qFv {T' : TypeId} {m n z : Int} (hx : e x = .d (iD m)) (hy : e y = .d (iD n)) (hz : m * n = z) (h1 : -9223372036854775808 ≤ z) (h2 : z ≤ 9223372036854775807) : Does P dst (.binOp .mul T x y T') ty e β (.d (iD z)) [] [] := by
  subst hz; exact does_mul hx hy h1 h2
theorem does_min_nat {ts : Array TypeId} {a b : Nat} {p q : Int} (hx : e x = .d (iD p)) (hy : e y = .d (iD q)) (hp : p = a) (hq : q = b) : Does P dst (.call { callee := .builtin .min, args := #[x, y], argTypes := ts }) ty e β (.d (iD ((min a b : Nat) : Int))) [] [] := by
  have h := does_min (P := P) (dst := dst) (ty := ty) (β := β) (ts := ts) hx hy
  have e1 : (if q < p then q else p) = ((min a b : Nat) : Int) := by split <;> omega
  rwa [e1] at h
end
end Go.Proofs.YtpaccaojgbfjdaaDoor


/-
  The pure layer: contracts whose (first) result is a slice of the caller's own; a row that is still nil. No condition.
-/
namespace Go.Proofs.YtpaccaojgbfjdaaDoor
open Go.RowKit

def mkRes (us : List Value) : Value := if h : us.toArray.size = 1 then us.toArray[0] else .tuple us.toArray
def qDH (I : Nat → Prop) (w w' : World) (v : Value) : Nat → Prop := fun g => ((I g ∨ w.heap.size ≤ g) ∧ g < w'.heap.size) ∧ v.ownBlock ≠ some g
structure PCO (P : Program) (f : FuncId) (ds : List D) (E : TypeId) (sz : Nat) (es : List (List D)) (rest : List D) : Prop where
  enters : Enters P f
  calls : ∀ (I : Nat → Prop) (w : World) (vs : Array Value), okBlocks I w → RepC I w false ds vs.toList →
    Calls P f vs w fun e w' => ∃ v us xs, e = .returned (mkRes (v :: us)) ∧ w'.ownsRow 0 E sz v es.length xs ∧ (∀ g, v.ownBlock = some g → w.heap.size ≤ g) ∧
      RepR (qDH I w w' v) w' sz es xs ∧ RepC (qDH I w w' v) w' false rest us ∧ Below w.heap.size w w'
section
variable {P : Program}
theorem PCO.args {f : FuncId} {ds ds' : List D} {E : TypeId} {sz : Nat} {es : List (List D)} {rest : List D} (h : PCO P f ds E sz es rest) (hs : qBK ds' ds) : PCO P f ds' E sz es rest :=
  ⟨h.enters, fun I w vs hI hv => h.calls I w vs hI (hs.rep hv)⟩
theorem own_repD {I : Nat → Prop} {w : World} {E : TypeId} {sz : Nat} {es : List (List D)} {v : Value} {xs : List Value} (h : w.ownsRow 0 E sz v es.length xs) (hr : RepR I w sz es xs) (hI : ∀ g, v.ownBlock = some g → I g) : RepD I w (.sl sz es) v := by
  obtain ⟨h1, h2 | ⟨g, cap, cur, h2, _, h3, h4, h5, h6, h7⟩⟩ := h
  · obtain ⟨rfl, h0⟩ := h2
    have he : es = [] := List.eq_nil_of_length_eq_zero h0
    subst he
    exact ⟨none, 0, xs, rfl, Nat.le_refl _, hr, fun h => absurd h (by simp)⟩
  · subst h2
    refine ⟨_, cap, xs, rfl, h4, hr, fun _ => ⟨g, 0, rfl, hI g rfl, fun j u hu => ?_⟩⟩
    rw [Nat.zero_add]
    have : w.cell? ⟨g, j, none⟩ = cur[j]? := by unfold World.cell?; rw [h3]; rfl
    rw [this]
    rw [← h7, List.getElem?_take] at hu
    split at hu
    · simpa using hu
    · cases hu
theorem PCO.pc {f : FuncId} {ds : List D} {E : TypeId} {sz : Nat} {es : List (List D)} {rest : List D} (h : PCO P f ds E sz es rest) : PC P f ds (resD (.sl sz es :: rest)) := by
  refine ⟨h.enters, fun I w vs hI hv => (h.calls I w vs hI hv).mono fun e w' ⟨v, us, xs, he, ho, hb, hr, hc, bel⟩ => ⟨_, he, ?_, bel⟩⟩
  have hx : ExtI (qDH I w w' v) w' (fun g => (I g ∨ w.heap.size ≤ g) ∧ g < w'.heap.size) w' := ⟨fun g hg => hg.1, fun _ _ => rfl⟩
  have hd : RepD (fun g => (I g ∨ w.heap.size ≤ g) ∧ g < w'.heap.size) w' (.sl sz es) v := own_repD ho (RepR.ext hx _ _ _ hr) fun g hg => ⟨.inr (hb g hg), (ho.lt g hg).2⟩
  have hc2 := RepC.ext hx false _ _ hc
  cases rest with
  | nil => cases hc2; exact hd
  | cons d ds =>
    obtain ⟨u, us', rfl, _, h1, h2⟩ := hc2
    show RepD _ w' (.tu (.sl sz es :: d :: ds)) (mkRes (v :: u :: us'))
    unfold mkRes
    rw [dif_neg (by simp)]
    exact ⟨_, rfl, v, _, (by simp), fun h => (by cases h), hd, u, us', rfl, fun h => by (cases h), h1, h2⟩
def RetO (P : Program) (rs : List ResultVar) (E : TypeId) (sz : Nat) (es : List (List D)) (rest : List D) (s : St) : Prop :=
  (∃ id n vs, qDB P s rs (.ow id n :: vs) ∧ look id s.β = some (.row E sz es) ∧ qCr s.β vs = some rest ∧ look id (qBZ s.β vs) = none) ∨
  (∃ vs, qDB P s rs (.d .nl :: vs) ∧ es = [] ∧ qCr s.β vs = some rest)
def retO (P : Program) (rs : List ResultVar) (E : TypeId) (sz : Nat) (es : List (List D)) (rest : List D) : Exit → St → Prop
  | .normal, s => RetO P rs E sz es rest s
  | .ret, s => RetO P rs E sz es rest s
  | _, _ => False
theorem reto_ok {s : St} {rs : List ResultVar} {E : TypeId} {sz : Nat} {es : List (List D)} {rest : List D} {id n : Nat} {vs : List A} (h1 : qDB P s rs (.ow id n :: vs)) {es' : List (List D)} (h2 : look id s.β = some (.row E sz es')) (h3 : qCr s.β vs = some rest) (h4 : look id (qBZ s.β vs) = none) (h5 : es' = es) : RetO P rs E sz es rest s := .inl ⟨id, n, vs, h1, h5 ▸ h2, h3, h4⟩
theorem oe_ret {rs : List ResultVar} {E : TypeId} {sz : Nat} {es : List (List D)} {rest : List D} {s : St} (h : RetO P rs E sz es rest s) : retO P rs E sz es rest .ret s := h
theorem pco_of_wp {f : FuncId} {fn : Func} {c : Code} {ds : List D} {E : TypeId} {sz : Nat} {es : List (List D)} {rest : List D} {rs : List ResultVar} (hf : P.funcs[f]? = some fn) (hb : fn.body = some c) (hn : (fn.name == "runtime.NumGoroutine") = false) (hds : ds.length ≤ fn.ntmps)
    (hrs : fn.results = rs.toArray) (h : ∀ (C : Ctx) (a : Act) (w : World), C.K = (fun _ => false) → C.N = fn.ntmps → At C ⟨argS 0 ds, []⟩ a w → c.wp P (lift C (retO P rs E sz es rest)) a w) : PCO P f ds E sz es rest := by
  refine ⟨qDf hf hb hn, fun I w vs hI hr => ?_⟩
  refine calls_of_wp hf hb ?_
  have hvl := qBS hr
  rw [Array.length_toList] at hvl
  let C : Ctx := { w0 := w, PB := fun _ => False, I0 := I, N := fn.ntmps, K := fun _ => false, args := fun _ => undef }
  have hat : At C ⟨argS 0 ds, []⟩ { tmps := vs ++ Array.replicate (fn.ntmps - vs.size) undef, defers := [] } w := by
    refine ⟨fun _ => undef, I, ⟨rfl, rfl, rfl, Nat.le_refl _, fun _ _ _ => rfl, hI.1, fun g hg => .inl hg, fun id b h => by (cases h), fun id b g h => by (cases h), fun i j b b' g h => by (cases h), fun id b h => by (cases h), hI.2⟩, rfl, ?_, fun t ht => (by cases ht), fun t v ht => ?_⟩
    · show (vs ++ Array.replicate (fn.ntmps - vs.size) undef).size = fn.ntmps
      simp; omega
    · obtain ⟨i, d, h1, h2, rfl⟩ := qFK ht
      obtain ⟨u, h3, h4, _⟩ := qDR hr h2
      have hlt : i < vs.size := by rw [← Array.length_toList]; exact (List.getElem?_eq_some_iff.1 h3).1
      rw [Nat.zero_add] at h1
      subst h1
      refine ⟨by show t < fn.ntmps; omega, trivial, ?_⟩
      have e1 : (vs ++ Array.replicate (fn.ntmps - vs.size) undef).getD t undef = u := by
        rw [Array.getD_eq_getD_getElem?, Array.getElem?_append_left hlt]
        have : vs[t]? = some u := by simpa using h3
        rw [this]; rfl
      show RepD I w d ((vs ++ Array.replicate (fn.ntmps - vs.size) undef).getD t undef)
      rw [e1]; exact h4
  have hfin : ∀ s a' w', RetO P rs E sz es rest s → At C s a' w' → a'.defers = [] ∧ ∃ v, (results fn a'.tmps).run P w' = .ok v w' ∧ (∃ v' us xs, Ending.returned v = .returned (mkRes (v' :: us)) ∧ w'.ownsRow 0 E sz v' es.length xs ∧ (∀ g, v'.ownBlock = some g → w.heap.size ≤ g) ∧
      RepR (qDH I w w' v') w' sz es xs ∧ RepC (qDH I w w' v') w' false rest us ∧ Below w.heap.size w w') := by
    have hrm : ∀ fn' : Func, fn'.results = rs.toArray → ∀ (a' : Act), results fn' a'.tmps = (do
          let vs ← rs.toArray.mapM (qEv a'.tmps)
          pure (if h : vs.size = 1 then vs[0] else .tuple vs)) := fun fn' h' a' => by
        unfold results
        rw [h']
        congr 1
    have hend : ∀ (s : St) (a' : Act) (w' : World) (v : A) (vs' : List A), qDB P s rs (v :: vs') → qCr s.β vs' = some rest → At C s a' w' → a'.defers = [] ∧ Below w.heap.size w w' ∧ ∃ u us ρ J J', Mem C s.β ρ J w' ∧ RepA ρ J w' v u ∧ Mem C (qBZ s.β vs' ++ s.β) ρ J' w' ∧ RepC J' w' false rest us ∧ (results fn a'.tmps).run P w' = .ok (mkRes (u :: us)) w' := by
      rintro s a' w' v vs' h1 h3 ⟨ρ, J, hm, hfr⟩
      obtain ⟨us, k1, k2, k3⟩ := qDl hm hfr h1
      obtain ⟨u, us', rfl, _, hu, hus⟩ := k3
      obtain ⟨J', m1, x1, r1, _⟩ := qCf _ _ rest s.β J hm k2.2 hus h3
      refine ⟨hfr.defers, ⟨m1.os, m1.tape, m1.output, m1.size, fun k hk => m1.frame k hk (fun h => h)⟩, u, us', ρ, J, J', hm, hu, m1, r1, ?_⟩
      rw [hrm fn hrs, List.mapM_toArray]
      simp only [map_eq_pure_bind, bind_assoc, pure_bind, Sem.run_bind, k1, Result.andThen_ok, Sem.run_pure]
      rfl
    have hnew : ∀ {s : St} {vs' : List A} {ρ : Nat → Value} {J' : Nat → Prop} {w' : World}, Mem C (qBZ s.β vs' ++ s.β) ρ J' w' → ∀ v : Value, (∀ g, v.ownBlock = some g → ¬ J' g) → ExtI J' w' (qDH I w w' v) w' := fun m1 v hv => ⟨fun g hg => ⟨⟨by
        rcases m1.new g hg with h | h | h
        · exact .inl h
        · exact .inr h
        · exact h.elim, m1.imm g hg⟩, fun e => hv g e hg⟩, fun _ _ => rfl⟩
    rintro s a' w' (⟨id, n, vs', h1, h2, h3, h4⟩ | ⟨vs', h1, h2, h3⟩) hat'
    · obtain ⟨hdef, hbel, u, us', ρ, J, J', hm, hu, m1, r1, hrun⟩ := hend s a' w' _ vs' h1 h3 hat'
      have hl : look id (qBZ s.β vs' ++ s.β) = some (.row E sz es) := by rw [qAO, h4]; exact h2
      obtain ⟨xs, b1, b2⟩ := m1.box id _ hl
      have hu1 : u = ρ id := hu.1
      subst hu1
      obtain ⟨ad, cc, k4, _⟩ := qDr b1
      have hbk : blk (ρ id) = (ρ id).ownBlock := blk_own k4
      have hown : ∀ g, (ρ id).ownBlock = some g → ¬ J' g ∧ w.heap.size ≤ g := fun g hg => by
        obtain ⟨_, o2, o3⟩ := m1.own id _ g hl rfl (hbk.trans hg)
        exact ⟨o2, o3.elim (fun h => h) (fun h => h.elim)⟩
      have hx := hnew m1 (ρ id) fun g hg => (hown g hg).1
      exact ⟨hdef, mkRes (ρ id :: us'), hrun, _, us', xs, rfl, b1, fun g hg => (hown g hg).2, RepR.ext hx _ _ _ b2, RepC.ext hx false _ _ r1, hbel⟩
    · obtain ⟨hdef, hbel, u, us', ρ, J, J', hm, hu, m1, r1, hrun⟩ := hend s a' w' _ vs' h1 h3 hat'
      have hu1 : u = .slice none 0 0 := hu
      subst hu1 h2
      have hx := hnew m1 (.slice none 0 0) fun g hg => by cases hg
      exact ⟨hdef, _, hrun, _, us', [], rfl, World.ownsRow_nil w' 0 E sz, fun g hg => by (cases hg), rfl, RepC.ext hx false _ _ r1, hbel⟩
  refine wp_mono (h C _ w rfl rfl hat) fun en a' w' hq => ?_
  obtain ⟨s, hq, ha⟩ := hq
  cases en with
  | normal => exact hfin s a' w' hq ha
  | ret => exact hfin s a' w' hq ha
  | _ => exact hq.elim
theorem pco_of_aw {f : FuncId} {fn : Func} {c : Code} {ds : List D} {E : TypeId} {sz : Nat} {es : List (List D)} {rest : List D} {rs : List ResultVar} (hf : P.funcs[f]? = some fn) (hb : fn.body = some c) (hn : (fn.name == "runtime.NumGoroutine") = false) (hmx : P.follows .mixedOrders = true) (hok : qCo (fun _ => false) fn.ntmps c = true) (hds : ds.length ≤ fn.ntmps)
    (hrs : fn.results = rs.toArray) (h : AW P c (retO P rs E sz es rest) ⟨argS 0 ds, []⟩) : PCO P f ds E sz es rest :=
  pco_of_wp hf hb hn hds hrs fun C a w hK hN ha => qCA hmx c _ _ a w (by rw [hK, hN]; exact hok) h ha
end
section
variable {P : Program} {fr : Nat} {dst : Option Nat} {ty : TypeId} {e : Operand → A} {β : Bx}
def resA (fr n : Nat) : List D → A
  | [] => .ow fr n
  | ds => .tu (.ow fr n :: ds.map A.d)
theorem repAs_d {ρ : Nat → Value} {I : Nat → Prop} {w : World} {o : Bool} : ∀ {ds : List D} {us : List Value}, RepC I w o ds us → qBr ρ I w o (ds.map A.d) us
  | [], _, h => h
  | d :: ds, _, ⟨u, us, h1, h2, h3, h4⟩ => ⟨u, us, h1, h2, h3, repAs_d h4⟩
theorem insB_d {β : Bx} : ∀ ds : List D, A.insB β (ds.map A.d)
  | [] => trivial
  | d :: ds => ⟨trivial, insB_d ds⟩
theorem does_callO {x : Operand} {args : Array Operand} {ts : Array TypeId} {f : FuncId} {first captured : List A} {ds : List D} {E : TypeId} {sz n : Nat} {es : List (List D)} {rest : List D} (hx : e x = .fn (.func f) first captured) (hds : qCr β (first ++ args.toList.map e ++ captured) = some ds) (hpc : PCO P f ds E sz es rest)
    (hn : es.length = n) (hf : look fr β = none) (hf2 : look fr (qBZ β (first ++ args.toList.map e ++ captured)) = none) :
    Does P (some fr) (.call { callee := .value x, args := args, argTypes := ts }) ty e β (resA fr n rest) ((fr, .row E sz es) :: qBZ β (first ++ args.toList.map e ++ captured)) ((first ++ args.toList.map e ++ captured).flatMap idsV) := by
  subst hn
  intro C γ hag ρ I w hm a hops o ho hd hty K Q hK
  obtain ⟨fi, ca, h1, h2, h3⟩ := qDE hx hops
  obtain ⟨e1, e2⟩ := qEd (fun id hid => hag id (List.mem_append_left _ hid))
  have hfg : look fr γ = none := (hag fr (by simp)).trans hf
  obtain ⟨I', m1, x1, r1, _⟩ := qCf _ _ ds γ I hm h2 h3 (e1.trans hds)
  have hff : look fr (qBZ γ (first ++ args.toList.map e ++ captured) ++ γ) = none := by rw [qAO, e2, hf2]; exact hfg
  unfold Oper.wp
  rw [qEn hpc.enters rfl h1 o ho, Oper.upon_enter]
  refine (hpc.calls I' w _ ⟨m1.imm, m1.gl⟩ r1).mono fun en w' ⟨v, us, xs, he, hown, hnew, hr, hc, hb⟩ => ?_
  subst he
  have hx2 : Ext (qBZ γ (first ++ args.toList.map e ++ captured) ++ γ) ρ I' w (updF ρ fr v) (qDH I' w w' v) w' := ⟨⟨fun g hg => ⟨⟨.inl hg, Nat.lt_of_lt_of_le (m1.imm g hg) hb.size⟩, fun e => by
    have := hnew g e
    have := m1.imm g hg
    omega⟩, fun g hg => hb.block g (m1.imm g hg)⟩, upd_dom hff ρ v⟩
  obtain ⟨ad, cc, k4, _⟩ := qDr hown
  have hbk : blk v = v.ownBlock := blk_own k4
  have m2 := m1.upd [(fr, .row E sz es)] hx2 hb.os hb.tape hb.output hb.size (fun g h => h.1.2) (fun g h => by
    rcases h.1.1 with h | h
    · exact .inl h
    · exact .inr (.inl (Nat.le_trans m1.size h))) (fun _ => False) (fun k hk _ => hb.block k hk) (fun k h => h.elim) (fun id b g hl _ hlv hg => ⟨fun h => h, fun h => by
      obtain ⟨h1, h2, _⟩ := m1.own id b g hl hlv hg
      rcases h.1.1 with h | h
      · exact h2 h
      · omega⟩) (fun id b h => by
      obtain ⟨rfl, rfl⟩ := qCi h
      refine ⟨⟨xs, by rw [qBI]; exact hown, hr⟩, trivial, fun _ g hg => ?_⟩
      rw [qBI, hbk] at hg
      refine ⟨(hown.lt g hg).2, fun h => h.2 hg, .inl (Nat.le_trans m1.size (hnew g hg)), fun id2 b2 hl2 _ hlv2 hbk2 => ?_⟩
      have := (m1.own id2 b2 g hl2 hlv2 hbk2).1
      have := hnew g hg
      omega) (fun i j b b' g hi hj _ _ _ _ => by rw [(qCi hi).1, (qCi hj).1])
  simp only [hd]
  rw [e2] at m2 hx2
  have hin : dom ([(fr, Box.row E sz es)] ++ (qBZ β (first ++ args.toList.map e ++ captured) ++ γ)) fr := by unfold dom; simp [qAO, qA1]
  have hrep : RepA (updF ρ fr v) (qDH I' w w' v) w' (.ow fr es.length) v := ow_rep hown (qBI _ _ _)
  refine hK (mkRes (v :: us)) (updF ρ fr v) _ w' m2 (x1.trans hx2 (fun i hi => qBC hi)) ?_ ?_
  · cases rest with
    | nil => exact hin
    | cons d ds' => exact ⟨hin, insB_d _⟩
  · cases rest with
    | nil => cases hc; exact hrep
    | cons d ds' =>
      obtain ⟨u, us', rfl, _, c1, c2⟩ := hc
      show RepA _ _ _ (.tu (.ow fr es.length :: A.d d :: ds'.map A.d)) (mkRes (v :: u :: us'))
      unfold mkRes
      rw [dif_neg (by simp)]
      exact ⟨_, rfl, v, _, (by simp), fun h => (by cases h), hrep, u, us', rfl, fun h => by (cases h), c1, repAs_d c2⟩
theorem does_callO' {x : Operand} {args : Array Operand} {ts : Array TypeId} {f : FuncId} {first captured : List A} {ds : List D} {E : TypeId} {sz n : Nat} {es : List (List D)} {rest : List D} {v : A} (hx : e x = .fn (.func f) first captured) (hds : qCr β (first ++ args.toList.map e ++ captured) = some ds) (hu : qBZ β (first ++ args.toList.map e ++ captured) = []) (hpc : PCO P f ds E sz es rest)
    (hn : es.length = n) (hf : look fr β = none) (hv : resA fr n rest = v) :
    Does P (some fr) (.call { callee := .value x, args := args, argTypes := ts }) ty e β v [(fr, .row E sz es)] ((first ++ args.toList.map e ++ captured).flatMap idsV) := by
  have := does_callO (P := P) (ty := ty) (args := args) (ts := ts) hx hds hpc hn hf (by rw [hu]; rfl)
  rwa [hu, hv] at this
theorem qEz {x : Operand} {vs : List A} {i : Nat} {v : A} (hx : e x = .tu vs) (hi : vs[i]? = some v) : Does P dst (.extract x i) ty e β v [] [] := by
  intro C γ hag ρ I w hm a hops o ho hd hty K Q hK
  obtain ⟨hb, hr⟩ := hops x (by simp [Op.operands])
  rw [hx] at hb hr
  obtain ⟨us, h1, h2⟩ := hr
  obtain ⟨u, h3, h4, _⟩ := qCp h2 hi
  have h3 : us[i]? = some u := by simpa using h3
  unfold Oper.wp
  have hrun : (execOp a.eval o).run P w = .ok (.value u) w := by
    simp [execOp, ho, h1, Instr.extract, h3, Sem.run_bind]
  rw [hrun, Oper.upon_value, hd]
  exact hK u ρ I w (by simpa using hm) (Ext.refl _ _ _ _) (by simpa using A.insB_mem hb v (List.mem_of_getElem? hi)) h4
end
end Go.Proofs.YtpaccaojgbfjdaaDoor


/-
  The pure layer: a slice of one's own as an element of another one; numbers put together out of bytes. No condition.
-/
namespace Go.Proofs.YtpaccaojgbfjdaaDoor
open Go.RowKit

def setE (e : Operand → A) (t : Nat) (v : A) : Operand → A
  | .tmp t' => if t' = t then v else e (.tmp t')
  | y => e y
section
variable {P : Program} {fr : Nat} {dst : Option Nat} {ty : TypeId} {e : Operand → A} {β : Bx} {T T' : TypeId} {x y : Operand}
theorem does_frz {op : Op} (t : Nat) {id n sz : Nat} {es : List (List D)} {v : A} {ups : Bx} {rd : List Nat} (hx : e (.tmp t) = .ow id n) (hro : qBB β id = some (sz, es))
    (h : Does P dst op ty (setE e t (.d (.sl sz es))) ([(id, .frz sz es)] ++ β) v ups rd) : Does P dst op ty e β v (ups ++ [(id, .frz sz es)]) (id :: rd) := by
  intro C γ hag ρ I w hm a hops o ho hd hty K Q hK
  have hid : look id γ = look id β := hag id (by simp)
  have hro2 : qBB γ id = some (sz, es) := (qC5 hid).trans hro
  obtain ⟨I', m1, x1, r1⟩ := hm.freeze_any hro2
  refine h C ([(id, .frz sz es)] ++ γ) (fun j hj => ?_) ρ I' w m1 a (fun z hz => ?_) o ho hd hty K Q (fun vv ρ' I2 w' hm' hx' hb' hr' => ?_)
  · rw [qAO, qAO]
    by_cases hji : j = id
    · subst hji; simp [qA1]
    · rw [qA1, if_neg (Ne.symm hji)]
      show look j γ = look j β
      refine hag j ?_
      simp only [List.map_append, List.mem_append, List.mem_cons, List.cons_append] at hj ⊢
      rcases hj with hj | hj
      · exact .inr (.inl hj)
      · exact .inr (.inr (.inl hj))
  · obtain ⟨h1, h2⟩ := hops z hz
    have h1' : (e z).inB ([(id, Box.frz sz es)] ++ γ) := A.inB_mono (fun i hi => qBC hi) _ h1
    have h2' := RepA.ext x1 _ _ h1 h2
    unfold setE
    split
    · rename_i t'
      split
      · rename_i e1
        subst e1
        rw [hx] at h2
        refine ⟨trivial, ?_⟩
        show RepD I' w (.sl sz es) _
        rw [h2.1]; exact r1
      · exact ⟨h1', h2'⟩
    · exact ⟨h1', h2'⟩
  · refine hK vv ρ' I2 w' (by rw [List.append_assoc]; exact hm') (x1.trans hx' (fun i hi => qBC hi)) ?_ hr'
    rw [List.append_assoc]; exact hb'
end
section
variable {P : Program} {dst : Option Nat} {ty : TypeId} {e : Operand → A} {β : Bx} {T T' : TypeId} {x y : Operand}
end
end Go.Proofs.YtpaccaojgbfjdaaDoor


/-
  The pure layer: a part of a slice with a bound on its capacity; parts of lists. No condition.
-/
namespace Go.Proofs.YtpaccaojgbfjdaaDoor
open Go.RowKit

section
variable {P : Program} {dst : Option Nat} {ty : TypeId} {e : Operand → A} {β : Bx} {T : TypeId} {x : Operand}
end
end Go.Proofs.YtpaccaojgbfjdaaDoor

