/-
  The pure layer: a range over a text; a rune as a text. No condition.
-/
import Derived.Test.YtlpnnnmdkglkcaaDoorZC
import Derived.Lib.OthersKept
import Derived.Laws.RangeAny
import Derived.Laws.Runes
import Derived.Test.YtlpnnnmdkglkcaaDoorZB
namespace Go.Proofs.YtlpnnnmdkglkcaaDoor
set_option linter.unusedSimpArgs false
set_option linter.unusedVariables false
open Go.RowKit

section
variable {P : Program} {fr : Nat} {dst : Option Nat} {ty : TypeId} {e : Operand → A} {β : Bx}
theorem does_range {T : TypeId} {t : TyI} {x : Operand} {s : ByteArray} (ht : mkTy P T = some t) (hk : t.kind = .str) (hx : e x = .d (strD s)) (hf : look fr β = none) : Does P (some fr) (.range T x) ty e β (.px fr 0) [(fr, .itr s 0)] [] := by
  intro C γ hag ρ I w hm a hops o ho hd hty K Q hK
  obtain ⟨i, d, z, _, hd', _, _, _, _, _, hkd⟩ := mkTy_spec ht
  have hd2 : P.underlying T = some .string := by rw [hd', kind_str (hkd.symm.trans hk)]
  have hf2 : look fr γ = none := (hag fr (by simp)).trans hf
  have hv := (hops x (by simp [Op.operands])).2
  rw [hx] at hv
  have hv := repA_sc hv
  obtain ⟨h1, h2⟩ := hm.new_box hf2 (v := .pointer (some ⟨w.heap.size, 0, none⟩)) (b := .itr s 0) (grownBy_alloc' w (.stringIter s 0)) (fun g hg => by
      simp only [blk, Option.some.injEq] at hg; subst hg; simp) (fun hx => ⟨w.heap.size, by rw [upd_same], push_at w _⟩) trivial
  unfold Oper.wp
  have hrun : (execOp a.eval o).run P w = .ok (.value (.pointer (some ⟨w.heap.size, 0, none⟩))) { w with heap := w.heap.push (.stringIter s 0) } := by
    unfold execOp
    simp only [ho, hv]
    simp only [Sem.run_bind]
    rw [run_range_string w T s hd2]
    rfl
  rw [hrun, Oper.upon_value, hd]
  exact hK _ _ I _ h1 h2 (by unfold A.inB dom; simp [look_append, look_cons]) ⟨w.heap.size, by rw [upd_same], rfl⟩
theorem iterAt_grown (w : World) (k : Nat) (s : ByteArray) (pos : Nat) : w.grownBy (w.iterAt k s pos) (some k) :=
  ⟨rfl, rfl, rfl, by simp [World.iterAt], fun j hj hne => Lib.iterAt_other w k j s pos (fun e => hne (by rw [e]))⟩
theorem does_next {x : Operand} {id : Nat} {s : ByteArray} {pos : Nat} (hx : e x = .px id 0) (hl : look id β = some (.itr s pos)) (hp : pos < s.size) :
    Does P dst (.next x true) ty e β (.d (.tu [bD true, iD pos, .sc (.int .i32 ((Utf8.decode s pos).1 : Nat))])) [(id, .itr s (pos + (Utf8.decode s pos).2))] [id] := by
  intro C γ hag ρ I w hm a hops o ho hd hty K Q hK
  have hl2 : look id γ = some (.itr s pos) := (hag id (by simp)).trans hl
  obtain ⟨hb, hv⟩ := hops x (by simp [Op.operands])
  rw [hx] at hv
  obtain ⟨g, hg, hv⟩ := hv
  obtain ⟨g', k1, k2⟩ := hm.box id _ hl2
  rw [hg] at k1
  injection k1 with k1; injection k1 with k1; injection k1 with k1
  subst k1
  have hmem := hm.set_box hl2 rfl (g := g) (by rw [hg]; rfl) (iterAt_grown w g s (pos + (Utf8.decode s pos).2)) (b := .itr s (pos + (Utf8.decode s pos).2)) (fun hx => ⟨g, hg, Lib.iterAt_heap w g s pos _ k2⟩) trivial
  unfold Oper.wp
  have hrun : (execOp a.eval o).run P w = .ok (.value (.tuple #[.bool true, .int .i64 pos, .int .i32 (Utf8.decode s pos).1])) (w.iterAt g s (pos + (Utf8.decode s pos).2)) := by
    unfold execOp
    simp only [ho, hv]
    simp only [Sem.run_bind]
    rw [Lib.run_next_any_at w g s pos _ k2 hp]
    simp [Sem.run_bind]
  rw [hrun, Oper.upon_value, hd]
  exact hK _ ρ I _ hmem.1 hmem.2 trivial ⟨_, rfl, ⟨_, _, rfl, nofun, ⟨rfl, rfl⟩, ⟨_, _, rfl, nofun, ⟨rfl, rfl⟩, ⟨_, _, rfl, nofun, ⟨rfl, rfl⟩, rfl⟩⟩⟩⟩
theorem does_next_end {x : Operand} {id : Nat} {s : ByteArray} {pos : Nat} (hx : e x = .px id 0) (hl : look id β = some (.itr s pos)) (hp : s.size ≤ pos) :
    Does P dst (.next x true) ty e β (.d (.tu [bD false])) [] [id] := by
  intro C γ hag ρ I w hm a hops o ho hd hty K Q hK
  have hl2 : look id γ = some (.itr s pos) := (hag id (by simp)).trans hl
  obtain ⟨hb, hv⟩ := hops x (by simp [Op.operands])
  rw [hx] at hv
  obtain ⟨g, hg, hv⟩ := hv
  obtain ⟨g', k1, k2⟩ := hm.box id _ hl2
  rw [hg] at k1
  injection k1 with k1; injection k1 with k1; injection k1 with k1
  subst k1
  unfold Oper.wp
  have hrun : (execOp a.eval o).run P w = .ok (.value (.tuple #[.bool false])) w := by
    unfold execOp
    simp only [ho, hv]
    simp only [Sem.run_bind]
    rw [Lib.run_next_end_at w g s pos _ k2 (by omega)]
    simp [Sem.run_bind]
  rw [hrun, Oper.upon_value, hd]
  exact hK _ ρ I _ hm ⟨⟨fun _ h => h, fun _ _ => rfl⟩, fun _ _ => rfl⟩ trivial ⟨_, rfl, ⟨_, _, rfl, nofun, ⟨rfl, rfl⟩, rfl⟩⟩
theorem does_conv_rune {S T : TypeId} {s t : TyI} {x : Operand} {k : IntKind} {n : Int} (hs : mkTy P S = some s) (ht : mkTy P T = some t) (hk : t.kind = .str) (hx : e x = .d (.sc (.int k n))) : Does P dst (.convert S T x) ty e β (.d (strD (Utf8.encode n))) [] [] :=
  Does.of_run fun C γ _ ρ I w _ a hops o ho _ => by
    obtain ⟨i, d, z, _, hd, _, _, _, _, _, hkd⟩ := mkTy_spec ht
    obtain ⟨i', d', z', _, hd', _, _, _, _, _, hkd'⟩ := mkTy_spec hs
    have hd2 : P.underlying T = some .string := by rw [hd, kind_str (hkd.symm.trans hk)]
    have h1 := (hops x (by simp [Op.operands])).2
    rw [hx] at h1
    have h1 := repA_sc h1
    refine ⟨.string (Utf8.encode n), ?_, trivial, rfl, rfl⟩
    unfold execOp
    simp only [ho, h1]
    simp only [Sem.run_bind]
    rw [run_convert_int_string w S T k n (by rw [hd']; rfl) hd2]
    simp [Sem.run_bind]
end
end Go.Proofs.YtlpnnnmdkglkcaaDoor


/-
  The pure layer: a pointer contract whose variable holds nil where the contract speaks of an empty row; two slices of one's own read as data at once. No condition.
-/
namespace Go.Proofs.YtlpnnnmdkglkcaaDoor
set_option linter.unusedSimpArgs false
set_option linter.unusedVariables false
open Go.RowKit

section
variable {P : Program} {dst : Option Nat} {ty : TypeId} {e : Operand → A} {β : Bx}
end
section
variable {P : Program} {dst : Option Nat} {ty : TypeId} {e : Operand → A} {β : Bx}
end
theorem repAs_setA {ρ : Nat → Value} {I : Nat → Prop} {w : World} {v : A} (hone : v.one = true) : ∀ {cs : List A} {us : List Value} {k : Nat} {u : Value}, RepAs ρ I w true cs us → us[k]? = some u → RepA ρ I w v u → RepAs ρ I w true (cs.set k v) us
  | [], _, k, u, h, hk, _ => by cases h; cases hk
  | c :: cs, _, 0, u, ⟨x, xs, rfl, ho, h1, h2⟩, hk, hr => by
    have hk : some x = some u := hk
    injection hk with hk
    exact ⟨x, xs, rfl, fun _ => hone, hk ▸ hr, h2⟩
  | c :: cs, _, k + 1, u, ⟨x, xs, rfl, ho, h1, h2⟩, hk, hr => ⟨x, xs, rfl, ho, h1, repAs_setA hone h2 (by simpa using hk) hr⟩
theorem insB_setA {β : Bx} {v : A} (hv : v.inB β) : ∀ {cs : List A} {k : Nat}, A.insB β cs → A.insB β (cs.set k v)
  | [], _, h => h
  | c :: cs, 0, h => ⟨hv, h.2⟩
  | c :: cs, k + 1, h => ⟨h.1, insB_setA hv h.2⟩
theorem PX.nil {P : Program} {f : FuncId} {al : List A} {V R V2 R2 V' R' : Bx} {r : D} (i k rid : Nat) {T E : TypeId} {sz : Nat} {cs : List A} (h : PX P f al V2 R2 r V' R') (hi : look i (V ++ R) = some (.var T cs)) (hk : cs[k]? = some (.d .nl)) (hf : look rid (V ++ R) = none)
    (h2 : ∀ id, look id (V2 ++ R2) = look id ((i, .var T (cs.set k (.ow rid 0))) :: (rid, .row E sz []) :: (V ++ R))) (hV' : ∀ p ∈ V', p.1 ≠ rid) : PX P f al V R r V' R' := by
  refine ⟨h.enters, fun ρ I w vs hm hin hr => ?_⟩
  obtain ⟨m1, x1⟩ := hm.new_box hf (v := .slice none 0 0) (b := .row E sz []) (w' := w) (World.grownBy.refl w none) (fun g hg => by cases hg) (fun hx => ⟨[], by rw [upd_same]; exact World.ownsRow_nil w 0 E sz, rfl⟩) trivial
  have hir : i ≠ rid := by rintro rfl; rw [hi] at hf; cases hf
  have hi1 : look i ([(rid, Box.row E sz [])] ++ (V ++ R)) = some (.var T cs) := by
    rw [look_append, look_cons, if_neg (Ne.symm hir)]; exact hi
  have hst : ∀ {id : Nat} {b : Box}, look id ((i, .var T (cs.set k (.ow rid 0))) :: (rid, .row E sz []) :: (V ++ R)) = some b → ∃ b', look id ([(rid, Box.row E sz [])] ++ (V ++ R)) = some b' ∧ b'.live = b.live := fun {id b} hb => by
    rw [look_cons] at hb
    split at hb
    · rename_i e
      injection hb with hb
      subst hb
      subst e
      exact ⟨_, hi1, rfl⟩
    · exact ⟨b, hb, rfl⟩
  have hdm : ∀ {id : Nat}, dom ([(rid, Box.row E sz [])] ++ (V ++ R)) id → dom ((i, .var T (cs.set k (.ow rid 0))) :: (rid, .row E sz []) :: (V ++ R)) id := fun {id} hd => by
    unfold dom at *
    rw [look_cons]
    split
    · exact Option.some_ne_none _
    · exact hd
  have m2 : Mem (ctxOf (V ++ R) ρ I w) ((i, .var T (cs.set k (.ow rid 0))) :: (rid, .row E sz []) :: (V ++ R)) (updF ρ rid (.slice none 0 0)) I w :=
    { os := m1.os, tape := m1.tape, output := m1.output, size := m1.size, frame := m1.frame, imm := m1.imm, new := m1.new, gl := m1.gl
      box := fun id b hb => by
        rw [look_cons] at hb
        split at hb
        · rename_i e
          injection hb with hb
          subst hb
          subst e
          obtain ⟨g, us, q1, q2, q3⟩ := m1.box i _ hi1
          obtain ⟨u, y1, y2, _⟩ := repAs_get q3 hk
          have y2 : u = .slice none 0 0 := y2
          subst y2
          exact ⟨g, us, q1, q2, repAs_setA rfl q3 y1 ⟨(upd_same _ _ _).symm, none, 0, rfl, Nat.le_refl _, fun h => absurd h (by simp)⟩⟩
        · exact m1.box id b hb
      own := fun id b g hb hl hg => by
        obtain ⟨b', q1, q2⟩ := hst hb
        exact m1.own id b' g q1 (q2.trans hl) hg
      inj := fun a c b b' g ha hc hl hl' hg hg' => by
        obtain ⟨b1, q1, q2⟩ := hst ha
        obtain ⟨b2, q3, q4⟩ := hst hc
        exact m1.inj a c b1 b2 g q1 q3 (q2.trans hl) (q4.trans hl') hg hg'
      clo := fun id b hb => by
        rw [look_cons] at hb
        split at hb
        · rename_i e
          injection hb with hb
          subst hb
          subst e
          have hc := m1.clo i _ hi1
          refine insB_setA ?_ (A.insB_mono (fun j hj => hdm hj) cs hc)
          show dom _ rid
          unfold dom
          rw [look_cons, if_neg hir, look_cons, if_pos rfl]
          exact Option.some_ne_none _
        · exact Box.inB_mono (fun j hj => hdm hj) b (m1.clo id b hb) }
  have m3 := m2.congr h2
  have hPB : PBof (V2 ++ R2) (updF ρ rid (.slice none 0 0)) = PBof (V ++ R) ρ := by
    funext g
    refine propext ⟨fun ⟨id, b, q1, q2, q3⟩ => ?_, fun ⟨id, b, q1, q2, q3⟩ => ?_⟩
    · rw [h2] at q1
      obtain ⟨b', q4, q5⟩ := hst q1
      by_cases hid : id = rid
      · subst hid; rw [upd_same] at q3; cases q3
      · rw [upd_other _ _ _ hid] at q3
        rw [look_append, look_cons, if_neg (Ne.symm hid)] at q4
        exact ⟨id, b', q4, q5.trans q2, q3⟩
    · have hid : id ≠ rid := by rintro rfl; rw [q1] at hf; cases hf
      refine ⟨id, if id = i then .var T (cs.set k (.ow rid 0)) else b, ?_, ?_, by rw [upd_other _ _ _ hid]; exact q3⟩
      · rw [h2, look_cons]
        by_cases hii : i = id
        · rw [if_pos hii, if_pos hii.symm]
        · rw [if_neg hii, if_neg (Ne.symm hii), look_cons, if_neg (Ne.symm hid)]; exact q1
      · by_cases hii : id = i
        · rw [if_pos hii]; rfl
        · rw [if_neg hii]; exact q2
  have m4 : Mem (ctxOf (V2 ++ R2) (updF ρ rid (.slice none 0 0)) I w) (V2 ++ R2) (updF ρ rid (.slice none 0 0)) I w := m3.ctx rfl hPB rfl
  have hin2 : A.insB (V2 ++ R2) al := A.insB_mono (fun j hj => by
    have : dom ([(rid, Box.row E sz [])] ++ (V ++ R)) j := dom_append hj
    have := hdm this
    unfold dom at *
    rw [h2]; exact this) al hin
  refine (h.calls _ I w vs m4 hin2 (RepAs.ext x1 false al _ hin hr)).mono fun en w' ⟨v, ρ', I', he, hρ, hm', hr'⟩ => ⟨v, ρ', I', he, fun p hp => (hρ p hp).trans (upd_other _ _ _ (hV' p hp)), hm'.ctx rfl hPB.symm rfl, hr'⟩
end Go.Proofs.YtlpnnnmdkglkcaaDoor


/-
  The pure layer: contracts with a function among the arguments that has captured pointers to the caller's variables. No condition.
-/
namespace Go.Proofs.YtlpnnnmdkglkcaaDoor
set_option linter.unusedSimpArgs false
set_option linter.unusedVariables false
open Go.RowKit

/-- Arguments that stay where they are: pointers, and functions. -/
def isPxF : A → Bool
  | .px _ _ => true
  | .fn _ _ _ => true
  | _ => false
def pxIn (id : Nat) : A → Bool
  | .px i _ => i == id
  | .fn _ _ cs => cs.any fun c => match c with
    | .px i _ => i == id
    | _ => false
  | _ => false
def keptSF : Nat → List A → Sl
  | _, [] => []
  | i, a :: r => if isPxF a = true then (i, a) :: keptSF (i + 1) r else keptSF (i + 1) r
def keptKF (al : List A) (t : Nat) : Bool := match al[t]? with
  | some a => isPxF a
  | none => false
def hasPxF (id : Nat) (al : List A) : Bool := al.any fun a => isPxF a && pxIn id a
theorem hasPxF_get {id : Nat} {al : List A} (h : hasPxF id al = true) : ∃ (i : Nat) (a : A), al[i]? = some a ∧ isPxF a = true ∧ pxIn id a = true := by
  obtain ⟨a, h1, h2⟩ := List.any_eq_true.1 h
  simp only [Bool.and_eq_true] at h2
  obtain ⟨i, hi⟩ := List.getElem?_of_mem h1
  exact ⟨i, a, hi, h2.1, h2.2⟩
theorem keptSF_look : ∀ {al : List A} {k i : Nat} {a : A}, al[i]? = some a → isPxF a = true → look (k + i) (keptSF k al) = some a
  | b :: al, k, 0, a, h, hp => by
    have h : some b = some a := h
    injection h with h
    subst h
    unfold keptSF
    rw [if_pos hp]
    simp [look_cons]
  | b :: al, k, i + 1, a, h, hp => by
    have h : al[i]? = some a := by simpa using h
    have ih := keptSF_look (k := k + 1) h hp
    rw [show k + (i + 1) = k + 1 + i by omega]
    unfold keptSF
    split
    · rw [look_cons, if_neg (by omega)]; exact ih
    · exact ih
theorem pxIn_same {ρ ρ' : Nat → Value} {I I' : Nat → Prop} {w w' : World} {id : Nat} {a : A} {u : Value} (h : pxIn id a = true) (h1 : RepA ρ I w a u) (h2 : RepA ρ' I' w' a u) : ρ id = ρ' id := by
  cases a with
  | px i off =>
    have h : i = id := by simpa [pxIn] using h
    subst h
    obtain ⟨g, a1, a2⟩ := h1
    obtain ⟨g', b1, b2⟩ := h2
    rw [a2] at b2
    injection b2 with b2; injection b2 with b2; injection b2 with b2
    subst b2
    rw [a1, b1]
  | fn f fs cs =>
    simp only [pxIn] at h
    obtain ⟨c, hc, hcid⟩ := List.any_eq_true.1 h
    obtain ⟨us, vs, a1, _, a3⟩ := h1
    obtain ⟨us', vs', b1, _, b3⟩ := h2
    rw [a1] at b1
    injection b1 with _ _ b1
    subst b1
    obtain ⟨j, hj⟩ := List.getElem?_of_mem hc
    obtain ⟨u1, y1, y2, _⟩ := repAs_get a3 hj
    obtain ⟨u2, y3, y4, _⟩ := repAs_get b3 hj
    rw [y1] at y3
    injection y3 with y3
    subst y3
    cases c with
    | px i off =>
      have hcid : i = id := by simpa using hcid
      subst hcid
      obtain ⟨g, a1, a2⟩ := y2
      obtain ⟨g', b1, b2⟩ := y4
      rw [a2] at b2
      injection b2 with b2; injection b2 with b2; injection b2 with b2
      subst b2
      rw [a1, b1]
    | _ => cases hcid
  | _ => cases h
def RetXF (P : Program) (rs : List ResultVar) (r : D) (al : List A) (V' R' : Bx) (s : St) : Prop := ∃ vs ds l, resVs P s rs vs ∧ frzVs s.β vs = some ds ∧ SubD (resD ds) r ∧ Forget l ⟨s.σ, frzVsU s.β vs ++ s.β⟩ ⟨keptSF 0 al, V' ++ R'⟩
def retXF (P : Program) (rs : List ResultVar) (r : D) (al : List A) (V' R' : Bx) : Exit → St → Prop
  | .normal, s => RetXF P rs r al V' R' s
  | .ret, s => RetXF P rs r al V' R' s
  | _, _ => False
section
variable {P : Program}
theorem pxf_of_aw {f : FuncId} {fn : Func} {c : Code} {al : List A} {V R V' R' : Bx} {r : D} {rs : List ResultVar} (hf : P.funcs[f]? = some fn) (hb : fn.body = some c) (hn : (fn.name == "runtime.NumGoroutine") = false) (hmx : P.follows .mixedOrders = true) (hok : codeOk (keptKF al) fn.ntmps c = true) (hds : al.length ≤ fn.ntmps)
    (hrs : fn.results = rs.toArray) (hV : V'.all (fun p => hasPxF p.1 al) = true) (h : AW P c (retXF P rs r al V' R') ⟨argA 0 al, V ++ R⟩) : PX P f al V R r V' R' := by
  refine ⟨enters_of hf hb hn, fun ρ I w vs hm hin hr => ?_⟩
  refine calls_of_wp hf hb ?_
  have hvl := repAs_len hr
  rw [Array.length_toList] at hvl
  have hget : ∀ {i : Nat} {v : A}, al[i]? = some v → ∃ u, vs[i]? = some u ∧ RepA ρ I w v u ∧ (vs ++ Array.replicate (fn.ntmps - vs.size) undef).getD i undef = u ∧ i < vs.size := fun {i v} hi => by
    obtain ⟨u, h3, h4, _⟩ := repAs_get hr hi
    have hlt : i < vs.size := by rw [← Array.length_toList]; exact (List.getElem?_eq_some_iff.1 h3).1
    have h5 : vs[i]? = some u := by simpa using h3
    refine ⟨u, h5, h4, ?_, hlt⟩
    rw [Array.getD_eq_getD_getElem?, Array.getElem?_append_left hlt, h5]; rfl
  let C : Ctx := { w0 := w, PB := PBof (V ++ R) ρ, I0 := I, N := fn.ntmps, K := keptKF al, args := fun t => (vs ++ Array.replicate (fn.ntmps - vs.size) undef).getD t undef }
  have hm' : Mem C (V ++ R) ρ I w := hm.ctx rfl rfl rfl
  have hat : At C ⟨argA 0 al, V ++ R⟩ { tmps := vs ++ Array.replicate (fn.ntmps - vs.size) undef, defers := [] } w := by
    refine ⟨ρ, I, hm', rfl, ?_, fun t _ => rfl, fun t v ht => ?_⟩
    · show (vs ++ Array.replicate (fn.ntmps - vs.size) undef).size = fn.ntmps
      simp; omega
    · obtain ⟨i, h1, h2⟩ := argA_look ht
      rw [Nat.zero_add] at h1
      subst h1
      obtain ⟨u, h3, h4, h5, h6⟩ := hget h2
      refine ⟨by show t < fn.ntmps; omega, A.insB_mem hin v (List.mem_of_getElem? h2), ?_⟩
      show RepA ρ I w v ((vs ++ Array.replicate (fn.ntmps - vs.size) undef).getD t undef)
      rw [h5]; exact h4
  have hfin : ∀ s a' w', RetXF P rs r al V' R' s → At C s a' w' → a'.defers = [] ∧ ∃ v, (results fn a'.tmps).run P w' = .ok v w' ∧
      (∃ v' ρ' I', Ending.returned v = .returned v' ∧ (∀ p ∈ V', ρ' p.1 = ρ p.1) ∧ Mem (ctxOf (V ++ R) ρ I w) (V' ++ R') ρ' I' w' ∧ RepD I' w' r v') := by
    rintro s a' w' ⟨vs', ds', l, h1, h2, hsub, hfg⟩ ⟨ρ2, J, hm2, hfr⟩
    obtain ⟨us, k1, k2, k3⟩ := resVs_run hm2 hfr h1
    obtain ⟨J', m1, x1, r1, _⟩ := freeze_vals _ _ ds' s.β J hm2 k2 k3 h2
    have hul := repC_len r1
    have hfr1 : Fr C s.σ (frzVsU s.β vs' ++ s.β) ρ2 J' w' a' := ⟨hfr.defers, hfr.size, hfr.keep, fun t v ht => by
      obtain ⟨q1, q2, q3⟩ := hfr.val t v ht
      exact ⟨q1, A.inB_mono (fun i hi => dom_append hi) v q2, RepA.ext x1 v _ q2 q3⟩⟩
    have m2 := hfg.mem m1
    have f2 := hfg.fr hfr1
    refine ⟨hfr.defers, (if h : us.toArray.size = 1 then us.toArray[0] else .tuple us.toArray), ?_, _, _, J', rfl, fun p hp => ?_, m2.ctx rfl rfl rfl, ?_⟩
    · have hrm : ∀ fn' : Func, fn'.results = rs.toArray → results fn' a'.tmps = (do
          let vs ← rs.toArray.mapM (resRun a'.tmps)
          pure (if h : vs.size = 1 then vs[0] else .tuple vs)) := fun fn' h' => by
        unfold results
        rw [h']
        congr 1
      rw [hrm fn hrs, List.mapM_toArray]
      simp only [map_eq_pure_bind, bind_assoc, pure_bind, Sem.run_bind, k1, Result.andThen_ok, Sem.run_pure]
    · obtain ⟨i, a0, hi, hk0, hid⟩ := hasPxF_get (List.all_eq_true.1 hV p hp)
      obtain ⟨_, _, q2⟩ := f2.val i a0 (by have := keptSF_look (k := 0) hi hk0; rwa [Nat.zero_add] at this)
      obtain ⟨u, _, z2, z3, _⟩ := hget hi
      have hk := hfr.keep i (by show keptKF al i = true; unfold keptKF; rw [hi]; exact hk0)
      have hk : a'.tmps.getD i undef = u := by rw [hk]; exact z3
      rw [hk] at q2
      exact (pxIn_same hid z2 q2).symm
    · refine hsub _ _ _ ?_
      cases ds' with
      | nil =>
        cases r1
        refine ⟨#[], by rfl, rfl⟩
      | cons d ds1 =>
        obtain ⟨u, us1, rfl, _, hd, hrest⟩ := r1
        cases ds1 with
        | nil =>
          cases hrest
          exact hd
        | cons d2 ds2 =>
          have hl2 := repC_len hrest
          rw [dif_neg (by simp [hl2])]
          refine ⟨_, rfl, ?_⟩
          have : RepC J' w' false (d :: d2 :: ds2) (u :: us1) := ⟨u, us1, rfl, fun h => by (cases h), hd, hrest⟩
          simpa using this
  refine wp_mono (aw_sound hmx c _ _ _ w (C := C) hok h hat) fun en a' w' hq => ?_
  obtain ⟨s, hq, ha⟩ := hq
  cases en with
  | normal => exact hfin s a' w' hq ha
  | ret => exact hfin s a' w' hq ha
  | _ => exact hq.elim
end
section
variable {P : Program} {rs : List ResultVar} {r : D} {al : List A} {V' R' : Bx} {s : St}
theorem xf_norm (h : RetXF P rs r al V' R' s) : retXF P rs r al V' R' .normal s := h
theorem xf_ret (h : RetXF P rs r al V' R' s) : retXF P rs r al V' R' .ret s := h
theorem retxf_ok {vs : List A} {ds : List D} {l : List (Nat × Nat)} (h1 : resVs P s rs vs) (h2 : frzVs s.β vs = some ds) (h3 : SubD (resD ds) r) (h4 : Forget l ⟨s.σ, frzVsU s.β vs ++ s.β⟩ ⟨keptSF 0 al, V' ++ R'⟩) : RetXF P rs r al V' R' s := ⟨vs, ds, l, h1, h2, h3, h4⟩
end
end Go.Proofs.YtlpnnnmdkglkcaaDoor


/-
  The pure layer: contracts whose result may name boxes: pointers to variables, old ones or new. No condition.
-/
namespace Go.Proofs.YtlpnnnmdkglkcaaDoor
set_option linter.unusedSimpArgs false
set_option linter.unusedVariables false
open Go.RowKit

structure PG (P : Program) (f : FuncId) (al : List A) (V R : Bx) (r : A) (V' R' : Bx) : Prop where
  enters : Enters P f
  calls : ∀ (ρ : Nat → Value) (I : Nat → Prop) (w : World) (vs : Array Value), Mem (ctxOf (V ++ R) ρ I w) (V ++ R) ρ I w → A.insB (V ++ R) al → RepAs ρ I w false al vs.toList →
    Calls P f vs w fun e w' => ∃ v ρ' I', e = .returned v ∧ (∀ p ∈ V', ρ' p.1 = ρ p.1) ∧ Mem (ctxOf (V ++ R) ρ I w) (V' ++ R') ρ' I' w' ∧ RepA ρ' I' w' r v
section
variable {P : Program}
end
section
variable {P : Program} {dst : Option Nat} {ty : TypeId} {e : Operand → A} {β : Bx}
end
section
variable {P : Program} {rs : List ResultVar} {r : A} {al : List A} {V' R' : Bx} {s : St}
end
end Go.Proofs.YtlpnnnmdkglkcaaDoor


/-
  The pure layer: functions of Go's library without a body; floats held against each other. No condition.
-/
namespace Go.Proofs.YtlpnnnmdkglkcaaDoor
set_option linter.unusedSimpArgs false
set_option linter.unusedVariables false
open Go.RowKit

/-- A function without a body, that does what g does. -/
structure ExtF (P : Program) (f : FuncId) (g : Array Value → Sem Value) : Prop where
  has : ∃ fn, P.funcs[f]? = some fn ∧ (fn.name == "runtime.NumGoroutine") = false ∧ fn.body.isNone = true ∧ Extern.findNext fn = none ∧ Extern.find fn = some g
theorem run_ext {P : Program} {f : FuncId} {g : Array Value → Sem Value} (h : ExtF P f g) {args : Array Value} {w : World} {v : Value} (hg : (g args).run P w = .ok v w) : (callFunc f args).run P w = .ok (.value v) w := by
  obtain ⟨fn, hf, hn, hb, hx, he⟩ := h.has
  unfold callFunc
  have : ¬ fn.name = "runtime.NumGoroutine" := by simpa using hn
  have hb2 : fn.body = none := by simpa using hb
  have hm : Sem.run P (Sem.mark (Mark.extern f) (Sem.pure ())) w = .ok () w := rfl
  simp [Sem.run_bind, hf, hb2, this, mark, hx, he, hg, hm]
section
variable {P : Program} {dst : Option Nat} {ty : TypeId} {e : Operand → A} {β : Bx} {T T' : TypeId} {x y : Operand}
theorem does_ext1 {f : FuncId} {g : Array Value → Sem Value} {z : Operand} {ts : Array TypeId} {u v : Value} (hf : ExtF P f g) (hx : e x = .fn (.func f) [] []) (hz : e z = .d (.sc u)) (hg : ∀ w, (g #[u]).run P w = .ok v w) (hv : v.oneCell' = true) :
    Does P dst (.call { callee := .value x, args := #[z], argTypes := ts }) ty e β (.d (.sc v)) [] [] :=
  Does.of_run fun C γ _ ρ I w _ a hops o ho _ => by
    have h1 := (hops x (by simp [Op.operands, Call.operands])).2
    have h2 := (hops z (by simp [Op.operands, Call.operands])).2
    rw [hx] at h1
    rw [hz] at h2
    obtain ⟨us, vs, h1, h3, h4⟩ := h1
    have h3 : us.toList = [] := h3
    have h4 : vs.toList = [] := h4
    have e1 : us = #[] := by simpa using h3
    have e2 : vs = #[] := by simpa using h4
    subst e1 e2
    have h2 : a.eval z = u := (repA_sc h2)
    refine ⟨v, ?_, trivial, rfl, hv⟩
    simp only [execOp, ho, resolve, Sem.run_bind, h1, Deferred.ofValue, Sem.run_pure, Result.andThen_ok, invoke]
    have := run_ext hf (hg w)
    simpa [h2] using this
def fltD (b : Nat) : D := .sc (.float .f64 b)
def fltV (bo : BinOp) (a b : Nat) : Bool := match bo with
  | .lss => FloatKind.f64.format.order a b == some .lt
  | .gtr => FloatKind.f64.format.order a b == some .gt
  | .eql => FloatKind.f64.format.order a b == some .eq
  | .neq => FloatKind.f64.format.order a b != some .eq
  | _ => false
theorem does_flt {bo : BinOp} {a b : Nat} (hx : e x = .d (fltD a)) (hy : e y = .d (fltD b)) (hk : bo = .lss ∨ bo = .gtr ∨ bo = .eql ∨ bo = .neq) : Does P dst (.binOp bo T x y T') ty e β (.d (bD (fltV bo a b))) [] [] :=
  Does.of_run fun C γ _ ρ I w _ ac hops o ho _ => by
    have h1 := (hops x (by simp [Op.operands])).2
    have h2 := (hops y (by simp [Op.operands])).2
    rw [hx] at h1
    rw [hy] at h2
    have h1 := repA_sc h1
    have h2 := repA_sc h2
    refine ⟨.bool (fltV bo a b), ?_, trivial, rfl, rfl⟩
    unfold execOp
    simp only [ho, h1, h2]
    rcases hk with rfl | rfl | rfl | rfl <;> (simp [eqGuard, binOp, Op.floatCmp, fltV, Sem.run_bind]; done)
end
end Go.Proofs.YtlpnnnmdkglkcaaDoor


/-
  The pure layer: a field that holds nil holds an empty row of the call's own. No condition.
-/
namespace Go.Proofs.YtlpnnnmdkglkcaaDoor
set_option linter.unusedSimpArgs false
set_option linter.unusedVariables false
open Go.RowKit

section
variable {P : Program} {σ : Sl} {β : Bx}
end
end Go.Proofs.YtlpnnnmdkglkcaaDoor

