/-
  The pure layer: a range over a text; a rune as a text. No condition.
-/
import Derived.Test.YtlpnnnmdkglkcaaDoorZC
import Derived.Lib.OthersKept
import Derived.Laws.RangeAny
import Derived.Laws.Runes
import Derived.Test.YtlpnnnmdkglkcaaDoorZB
set_option linter.unusedSimpArgs false
set_option linter.unusedVariables false
namespace Go.Proofs.YtlpnnnmdkglkcaaDoor
open Go.RowKit

section
variable {P : Program} {fr : Nat} {dst : Option Nat} {ty : TypeId} {e : Operand → A} {β : Bx}
theorem does_range {T : TypeId} {t : TyI} {x : Operand} {s : ByteArray} (ht : mkTy P T = some t) (hk : t.kind = .str) (hx : e x = .d (strD s)) (hf : look fr β = none) : Does P (some fr) (.range T x) ty e β (.px fr 0) [(fr, .itr s 0)] [] := by
  intro C γ hag ρ I w hm a hops o ho hd hty K Q hK
  obtain ⟨i, d, z, _, hd', _, _, _, _, _, hkd⟩ := qBC ht
  have hd2 : P.underlying T = some .string := by rw [hd', qEA (hkd.symm.trans hk)]
  have hf2 : look fr γ = none := (hag fr (by simp)).trans hf
  have hv := (hops x (by simp [Op.operands])).2
  rw [hx] at hv
  have hv := qBu hv
  obtain ⟨h1, h2⟩ := hm.new_box hf2 (v := .pointer (some ⟨w.heap.size, 0, none⟩)) (b := .itr s 0) (qCM w (.stringIter s 0)) (fun g hg => by
      simp only [blk, Option.some.injEq] at hg; subst hg; simp) (fun hx => ⟨w.heap.size, by rw [qB4], push_at w _⟩) trivial
  unfold Oper.wp
  have hrun : (execOp a.eval o).run P w = .ok (.value (.pointer (some ⟨w.heap.size, 0, none⟩))) { w with heap := w.heap.push (.stringIter s 0) } := by
    unfold execOp
    simp only [ho, hv]
    simp only [Sem.run_bind]
    rw [run_range_string w T s hd2]
    rfl
  rw [hrun, Oper.upon_value, hd]
  exact hK _ _ I _ h1 h2 (by unfold A.inB dom; simp [qAI, qA6]) ⟨w.heap.size, by rw [qB4], rfl⟩
theorem iterAt_grown (w : World) (k : Nat) (s : ByteArray) (pos : Nat) : w.grownBy (w.iterAt k s pos) (some k) :=
  ⟨rfl, rfl, rfl, by simp [World.iterAt], fun j hj hne => Lib.iterAt_other w k j s pos (fun e => hne (by rw [e]))⟩
theorem does_next {x : Operand} {id : Nat} {s : ByteArray} {pos : Nat} (hx : e x = .px id 0) (hl : look id β = some (.itr s pos)) (hp : pos < s.size) :
    Does P dst (.next x true) ty e β (.d (.tu [bD true, iD pos, .sc (.int .i32 ((Utf8.decode s pos).1 : Nat))])) [(id, .itr s (pos + (Utf8.decode s pos).2))] [id] := by
  intro C γ hag ρ I w hm a hops o ho hd hty K Q hK
  have hl2 : look id γ = some (.itr s pos) := (hag id (by simp)).trans hl
  obtain ⟨hb, hv⟩ := hops x (by simp [Op.operands])
  rw [hx] at hv
  obtain ⟨g, hg, hv⟩ := hv
  obtain ⟨g', k1, k2⟩ := hm.box id _ hl2
  rw [hg] at k1
  injection k1 with k1; injection k1 with k1; injection k1 with k1
  subst k1
  have hmem := hm.set_box hl2 rfl (g := g) (by rw [hg]; rfl) (iterAt_grown w g s (pos + (Utf8.decode s pos).2)) (b := .itr s (pos + (Utf8.decode s pos).2)) (fun hx => ⟨g, hg, Lib.iterAt_heap w g s pos _ k2⟩) trivial
  unfold Oper.wp
  have hrun : (execOp a.eval o).run P w = .ok (.value (.tuple #[.bool true, .int .i64 pos, .int .i32 (Utf8.decode s pos).1])) (w.iterAt g s (pos + (Utf8.decode s pos).2)) := by
    unfold execOp
    simp only [ho, hv]
    simp only [Sem.run_bind]
    rw [Lib.run_next_any_at w g s pos _ k2 hp]
    simp [Sem.run_bind]
  rw [hrun, Oper.upon_value, hd]
  exact hK _ ρ I _ hmem.1 hmem.2 trivial ⟨_, rfl, ⟨_, _, rfl, nofun, ⟨rfl, rfl⟩, ⟨_, _, rfl, nofun, ⟨rfl, rfl⟩, ⟨_, _, rfl, nofun, ⟨rfl, rfl⟩, rfl⟩⟩⟩⟩
theorem does_next_end {x : Operand} {id : Nat} {s : ByteArray} {pos : Nat} (hx : e x = .px id 0) (hl : look id β = some (.itr s pos)) (hp : s.size ≤ pos) :
    Does P dst (.next x true) ty e β (.d (.tu [bD false])) [] [id] := by
  intro C γ hag ρ I w hm a hops o ho hd hty K Q hK
  have hl2 : look id γ = some (.itr s pos) := (hag id (by simp)).trans hl
  obtain ⟨hb, hv⟩ := hops x (by simp [Op.operands])
  rw [hx] at hv
  obtain ⟨g, hg, hv⟩ := hv
  obtain ⟨g', k1, k2⟩ := hm.box id _ hl2
  rw [hg] at k1
  injection k1 with k1; injection k1 with k1; injection k1 with k1
  subst k1
  unfold Oper.wp
  have hrun : (execOp a.eval o).run P w = .ok (.value (.tuple #[.bool false])) w := by
    unfold execOp
    simp only [ho, hv]
    simp only [Sem.run_bind]
    rw [Lib.run_next_end_at w g s pos _ k2 (by omega)]
    simp [Sem.run_bind]
  rw [hrun, Oper.upon_value, hd]
  exact hK _ ρ I _ hm ⟨⟨fun _ h => h, fun _ _ => rfl⟩, fun _ _ => rfl⟩ trivial ⟨_, rfl, ⟨_, _, rfl, nofun, ⟨rfl, rfl⟩, rfl⟩⟩
theorem does_conv_rune {S T : TypeId} {s t : TyI} {x : Operand} {k : IntKind} {n : Int} (hs : mkTy P S = some s) (ht : mkTy P T = some t) (hk : t.kind = .str) (hx : e x = .d (.sc (.int k n))) : Does P dst (.convert S T x) ty e β (.d (strD (Utf8.encode n))) [] [] :=
  Does.of_run fun C γ _ ρ I w _ a hops o ho _ => by
    obtain ⟨i, d, z, _, hd, _, _, _, _, _, hkd⟩ := qBC ht
    obtain ⟨i', d', z', _, hd', _, _, _, _, _, hkd'⟩ := qBC hs
    have hd2 : P.underlying T = some .string := by rw [hd, qEA (hkd.symm.trans hk)]
    have h1 := (hops x (by simp [Op.operands])).2
    rw [hx] at h1
    have h1 := qBu h1
    refine ⟨.string (Utf8.encode n), ?_, trivial, rfl, rfl⟩
    unfold execOp
    simp only [ho, h1]
    simp only [Sem.run_bind]
    rw [run_convert_int_string w S T k n (by rw [hd']; rfl) hd2]
    simp [Sem.run_bind]
end
end Go.Proofs.YtlpnnnmdkglkcaaDoor


/-
  The pure layer: a pointer contract whose variable holds nil where the contract speaks of an empty row; two slices of one's own read as data at once. No condition.
-/
namespace Go.Proofs.YtlpnnnmdkglkcaaDoor
open Go.RowKit

section
variable {P : Program} {dst : Option Nat} {ty : TypeId} {e : Operand → A} {β : Bx}
end
section
variable {P : Program} {dst : Option Nat} {ty : TypeId} {e : Operand → A} {β : Bx}
end
theorem repAs_setA {ρ : Nat → Value} {I : Nat → Prop} {w : World} {v : A} (hone : v.one = true) : ∀ {cs : List A} {us : List Value} {k : Nat} {u : Value}, qBj ρ I w true cs us → us[k]? = some u → RepA ρ I w v u → qBj ρ I w true (cs.set k v) us
  | [], _, k, u, h, hk, _ => by cases h; cases hk
  | c :: cs, _, 0, u, ⟨x, xs, rfl, ho, h1, h2⟩, hk, hr => by
    have hk : some x = some u := hk
    injection hk with hk
    exact ⟨x, xs, rfl, fun _ => hone, hk ▸ hr, h2⟩
  | c :: cs, _, k + 1, u, ⟨x, xs, rfl, ho, h1, h2⟩, hk, hr => ⟨x, xs, rfl, ho, h1, repAs_setA hone h2 (by simpa using hk) hr⟩
theorem insB_setA {β : Bx} {v : A} (hv : v.inB β) : ∀ {cs : List A} {k : Nat}, A.insB β cs → A.insB β (cs.set k v)
  | [], _, h => h
  | c :: cs, 0, h => ⟨hv, h.2⟩
  | c :: cs, k + 1, h => ⟨h.1, insB_setA hv h.2⟩
theorem PX.nil {P : Program} {f : FuncId} {al : List A} {V R V2 R2 V' R' : Bx} {r : D} (i k rid : Nat) {T E : TypeId} {sz : Nat} {cs : List A} (h : PX P f al V2 R2 r V' R') (hi : look i (V ++ R) = some (.var T cs)) (hk : cs[k]? = some (.d .nl)) (hf : look rid (V ++ R) = none)
    (h2 : ∀ id, look id (V2 ++ R2) = look id ((i, .var T (cs.set k (.ow rid 0))) :: (rid, .row E sz []) :: (V ++ R))) (hV' : ∀ p ∈ V', p.1 ≠ rid) : PX P f al V R r V' R' := by
  refine ⟨h.enters, fun ρ I w vs hm hin hr => ?_⟩
  obtain ⟨m1, x1⟩ := hm.new_box hf (v := .slice none 0 0) (b := .row E sz []) (w' := w) (World.grownBy.refl w none) (fun g hg => by cases hg) (fun hx => ⟨[], by rw [qB4]; exact World.ownsRow_nil w 0 E sz, rfl⟩) trivial
  have hir : i ≠ rid := by rintro rfl; rw [hi] at hf; cases hf
  have hi1 : look i ([(rid, Box.row E sz [])] ++ (V ++ R)) = some (.var T cs) := by
    rw [qAI, qA6, if_neg (Ne.symm hir)]; exact hi
  have hst : ∀ {id : Nat} {b : Box}, look id ((i, .var T (cs.set k (.ow rid 0))) :: (rid, .row E sz []) :: (V ++ R)) = some b → ∃ b', look id ([(rid, Box.row E sz [])] ++ (V ++ R)) = some b' ∧ b'.live = b.live := fun {id b} hb => by
    rw [qA6] at hb
    split at hb
    · rename_i e
      injection hb with hb
      subst hb
      subst e
      exact ⟨_, hi1, rfl⟩
    · exact ⟨b, hb, rfl⟩
  have hdm : ∀ {id : Nat}, dom ([(rid, Box.row E sz [])] ++ (V ++ R)) id → dom ((i, .var T (cs.set k (.ow rid 0))) :: (rid, .row E sz []) :: (V ++ R)) id := fun {id} hd => by
    unfold dom at *
    rw [qA6]
    split
    · exact Option.some_ne_none _
    · exact hd
  have m2 : Mem (qDE (V ++ R) ρ I w) ((i, .var T (cs.set k (.ow rid 0))) :: (rid, .row E sz []) :: (V ++ R)) (updF ρ rid (.slice none 0 0)) I w :=
    { os := m1.os, tape := m1.tape, output := m1.output, size := m1.size, frame := m1.frame, imm := m1.imm, new := m1.new, gl := m1.gl
      box := fun id b hb => by
        rw [qA6] at hb
        split at hb
        · rename_i e
          injection hb with hb
          subst hb
          subst e
          obtain ⟨g, us, q1, q2, q3⟩ := m1.box i _ hi1
          obtain ⟨u, y1, y2, _⟩ := qCe q3 hk
          have y2 : u = .slice none 0 0 := y2
          subst y2
          exact ⟨g, us, q1, q2, repAs_setA rfl q3 y1 ⟨(qB4 _ _ _).symm, none, 0, rfl, Nat.le_refl _, fun h => absurd h (by simp)⟩⟩
        · exact m1.box id b hb
      own := fun id b g hb hl hg => by
        obtain ⟨b', q1, q2⟩ := hst hb
        exact m1.own id b' g q1 (q2.trans hl) hg
      inj := fun a c b b' g ha hc hl hl' hg hg' => by
        obtain ⟨b1, q1, q2⟩ := hst ha
        obtain ⟨b2, q3, q4⟩ := hst hc
        exact m1.inj a c b1 b2 g q1 q3 (q2.trans hl) (q4.trans hl') hg hg'
      clo := fun id b hb => by
        rw [qA6] at hb
        split at hb
        · rename_i e
          injection hb with hb
          subst hb
          subst e
          have hc := m1.clo i _ hi1
          refine insB_setA ?_ (A.insB_mono (fun j hj => hdm hj) cs hc)
          show dom _ rid
          unfold dom
          rw [qA6, if_neg hir, qA6, if_pos rfl]
          exact Option.some_ne_none _
        · exact Box.inB_mono (fun j hj => hdm hj) b (m1.clo id b hb) }
  have m3 := m2.congr h2
  have hPB : PBof (V2 ++ R2) (updF ρ rid (.slice none 0 0)) = PBof (V ++ R) ρ := by
    funext g
    refine propext ⟨fun ⟨id, b, q1, q2, q3⟩ => ?_, fun ⟨id, b, q1, q2, q3⟩ => ?_⟩
    · rw [h2] at q1
      obtain ⟨b', q4, q5⟩ := hst q1
      by_cases hid : id = rid
      · subst hid; rw [qB4] at q3; cases q3
      · rw [qEQ _ _ _ hid] at q3
        rw [qAI, qA6, if_neg (Ne.symm hid)] at q4
        exact ⟨id, b', q4, q5.trans q2, q3⟩
    · have hid : id ≠ rid := by rintro rfl; rw [q1] at hf; cases hf
      refine ⟨id, if id = i then .var T (cs.set k (.ow rid 0)) else b, ?_, ?_, by rw [qEQ _ _ _ hid]; exact q3⟩
      · rw [h2, qA6]
        by_cases hii : i = id
        · rw [if_pos hii, if_pos hii.symm]
        · rw [if_neg hii, if_neg (Ne.symm hii), qA6, if_neg (Ne.symm hid)]; exact q1
      · by_cases hii : id = i
        · rw [if_pos hii]; rfl
        · rw [if_neg hii]; exact q2
  have m4 : Mem (qDE (V2 ++ R2) (updF ρ rid (.slice none 0 0)) I w) (V2 ++ R2) (updF ρ rid (.slice none 0 0)) I w := m3.ctx rfl hPB rfl
  have hin2 : A.insB (V2 ++ R2) al := A.insB_mono (fun j hj => by
    have : dom ([(rid, Box.row E sz [])] ++ (V ++ R)) j := qBy hj
    have := hdm this
    unfold dom at *
    rw [h2]; exact this) al hin
  refine (h.calls _ I w vs m4 hin2 (qBj.ext x1 false al _ hin hr)).mono fun en w' ⟨v, ρ', I', he, hρ, hm', hr'⟩ => ⟨v, ρ', I', he, fun p hp => (hρ p hp).trans (qEQ _ _ _ (hV' p hp)), hm'.ctx rfl hPB.symm rfl, hr'⟩
end Go.Proofs.YtlpnnnmdkglkcaaDoor


/-
  The pure layer: contracts with a function among the arguments that has captured pointers to the caller's variables. No condition.
-/
namespace Go.Proofs.YtlpnnnmdkglkcaaDoor
open Go.RowKit

def isPxF : A → Bool
  | .px _ _ => true
  | .fn _ _ _ => true
  | _ => false
def pxIn (id : Nat) : A → Bool
  | .px i _ => i == id
  | .fn _ _ cs => cs.any fun c => match c with
    | .px i _ => i == id
    | _ => false
  | _ => false
def qEN : Nat → List A → Sl
  | _, [] => []
  | i, a :: r => if isPxF a = true then (i, a) :: qEN (i + 1) r else qEN (i + 1) r
def qE7 (al : List A) (t : Nat) : Bool := match al[t]? with
  | some a => isPxF a
  | none => false
def hasPxF (id : Nat) (al : List A) : Bool := al.any fun a => isPxF a && pxIn id a
theorem hasPxF_get {id : Nat} {al : List A} (h : hasPxF id al = true) : ∃ (i : Nat) (a : A), al[i]? = some a ∧ isPxF a = true ∧ pxIn id a = true := by
  obtain ⟨a, h1, h2⟩ := List.any_eq_true.1 h
  simp only [Bool.and_eq_true] at h2
  obtain ⟨i, hi⟩ := List.getElem?_of_mem h1
  exact ⟨i, a, hi, h2.1, h2.2⟩
theorem qEj : ∀ {al : List A} {k i : Nat} {a : A}, al[i]? = some a → isPxF a = true → look (k + i) (qEN k al) = some a
  | b :: al, k, 0, a, h, hp => by
    have h : some b = some a := h
    injection h with h
    subst h
    unfold qEN
    rw [if_pos hp]
    simp [qA6]
  | b :: al, k, i + 1, a, h, hp => by
    have h : al[i]? = some a := by simpa using h
    have ih := qEj (k := k + 1) h hp
    rw [show k + (i + 1) = k + 1 + i by omega]
    unfold qEN
    split
    · rw [qA6, if_neg (by omega)]; exact ih
    · exact ih
theorem pxIn_same {ρ ρ' : Nat → Value} {I I' : Nat → Prop} {w w' : World} {id : Nat} {a : A} {u : Value} (h : pxIn id a = true) (h1 : RepA ρ I w a u) (h2 : RepA ρ' I' w' a u) : ρ id = ρ' id := by
  cases a with
  | px i off =>
    have h : i = id := by simpa [pxIn] using h
    subst h
    obtain ⟨g, a1, a2⟩ := h1
    obtain ⟨g', b1, b2⟩ := h2
    rw [a2] at b2
    injection b2 with b2; injection b2 with b2; injection b2 with b2
    subst b2
    rw [a1, b1]
  | fn f fs cs =>
    simp only [pxIn] at h
    obtain ⟨c, hc, hcid⟩ := List.any_eq_true.1 h
    obtain ⟨us, vs, a1, _, a3⟩ := h1
    obtain ⟨us', vs', b1, _, b3⟩ := h2
    rw [a1] at b1
    injection b1 with _ _ b1
    subst b1
    obtain ⟨j, hj⟩ := List.getElem?_of_mem hc
    obtain ⟨u1, y1, y2, _⟩ := qCe a3 hj
    obtain ⟨u2, y3, y4, _⟩ := qCe b3 hj
    rw [y1] at y3
    injection y3 with y3
    subst y3
    cases c with
    | px i off =>
      have hcid : i = id := by simpa using hcid
      subst hcid
      obtain ⟨g, a1, a2⟩ := y2
      obtain ⟨g', b1, b2⟩ := y4
      rw [a2] at b2
      injection b2 with b2; injection b2 with b2; injection b2 with b2
      subst b2
      rw [a1, b1]
    | _ => cases hcid
  | _ => cases h
def RetXF (P : Program) (rs : List ResultVar) (r : D) (al : List A) (V' R' : Bx) (s : St) : Prop := ∃ vs ds l, qE4 P s rs vs ∧ qCS s.β vs = some ds ∧ SubD (resD ds) r ∧ Forget l ⟨s.σ, qCy s.β vs ++ s.β⟩ ⟨qEN 0 al, V' ++ R'⟩
def retXF (P : Program) (rs : List ResultVar) (r : D) (al : List A) (V' R' : Bx) : Exit → St → Prop
  | .normal, s => RetXF P rs r al V' R' s
  | .ret, s => RetXF P rs r al V' R' s
  | _, _ => False
section
variable {P : Program}
theorem qAW {f : FuncId} {fn : Func} {c : Code} {al : List A} {V R V' R' : Bx} {r : D} {rs : List ResultVar} (hf : P.funcs[f]? = some fn) (hb : fn.body = some c) (hn : (fn.name == "runtime.NumGoroutine") = false) (hmx : P.follows .mixedOrders = true) (hok : qB8 (qE7 al) fn.ntmps c = true) (hds : al.length ≤ fn.ntmps)
    (hrs : fn.results = rs.toArray) (hV : V'.all (fun p => hasPxF p.1 al) = true) (h : AW P c (retXF P rs r al V' R') ⟨argA 0 al, V ++ R⟩) : PX P f al V R r V' R' := by
  refine ⟨qCu hf hb hn, fun ρ I w vs hm hin hr => ?_⟩
  refine calls_of_wp hf hb ?_
  have hvl := qBZ hr
  rw [Array.length_toList] at hvl
  have hget : ∀ {i : Nat} {v : A}, al[i]? = some v → ∃ u, vs[i]? = some u ∧ RepA ρ I w v u ∧ (vs ++ Array.replicate (fn.ntmps - vs.size) undef).getD i undef = u ∧ i < vs.size := fun {i v} hi => by
    obtain ⟨u, h3, h4, _⟩ := qCe hr hi
    have hlt : i < vs.size := by rw [← Array.length_toList]; exact (List.getElem?_eq_some_iff.1 h3).1
    have h5 : vs[i]? = some u := by simpa using h3
    refine ⟨u, h5, h4, ?_, hlt⟩
    rw [Array.getD_eq_getD_getElem?, Array.getElem?_append_left hlt, h5]; rfl
  let C : Ctx := { w0 := w, PB := PBof (V ++ R) ρ, I0 := I, N := fn.ntmps, K := qE7 al, args := fun t => (vs ++ Array.replicate (fn.ntmps - vs.size) undef).getD t undef }
  have hm' : Mem C (V ++ R) ρ I w := hm.ctx rfl rfl rfl
  have hat : At C ⟨argA 0 al, V ++ R⟩ { tmps := vs ++ Array.replicate (fn.ntmps - vs.size) undef, defers := [] } w := by
    refine ⟨ρ, I, hm', rfl, ?_, fun t _ => rfl, fun t v ht => ?_⟩
    · show (vs ++ Array.replicate (fn.ntmps - vs.size) undef).size = fn.ntmps
      simp; omega
    · obtain ⟨i, h1, h2⟩ := qDn ht
      rw [Nat.zero_add] at h1
      subst h1
      obtain ⟨u, h3, h4, h5, h6⟩ := hget h2
      refine ⟨by show t < fn.ntmps; omega, A.insB_mem hin v (List.mem_of_getElem? h2), ?_⟩
      show RepA ρ I w v ((vs ++ Array.replicate (fn.ntmps - vs.size) undef).getD t undef)
      rw [h5]; exact h4
  have hfin : ∀ s a' w', RetXF P rs r al V' R' s → At C s a' w' → a'.defers = [] ∧ ∃ v, (results fn a'.tmps).run P w' = .ok v w' ∧
      (∃ v' ρ' I', Ending.returned v = .returned v' ∧ (∀ p ∈ V', ρ' p.1 = ρ p.1) ∧ Mem (qDE (V ++ R) ρ I w) (V' ++ R') ρ' I' w' ∧ RepD I' w' r v') := by
    rintro s a' w' ⟨vs', ds', l, h1, h2, hsub, hfg⟩ ⟨ρ2, J, hm2, hfr⟩
    obtain ⟨us, k1, k2, k3⟩ := qDe hm2 hfr h1
    obtain ⟨J', m1, x1, r1, _⟩ := qCm _ _ ds' s.β J hm2 k2 k3 h2
    have hul := qBP r1
    have hfr1 : Fr C s.σ (qCy s.β vs' ++ s.β) ρ2 J' w' a' := ⟨hfr.defers, hfr.size, hfr.keep, fun t v ht => by
      obtain ⟨q1, q2, q3⟩ := hfr.val t v ht
      exact ⟨q1, A.inB_mono (fun i hi => qBy hi) v q2, RepA.ext x1 v _ q2 q3⟩⟩
    have m2 := hfg.mem m1
    have f2 := hfg.fr hfr1
    refine ⟨hfr.defers, (if h : us.toArray.size = 1 then us.toArray[0] else .tuple us.toArray), ?_, _, _, J', rfl, fun p hp => ?_, m2.ctx rfl rfl rfl, ?_⟩
    · have hrm : ∀ fn' : Func, fn'.results = rs.toArray → results fn' a'.tmps = (do
          let vs ← rs.toArray.mapM (qEf a'.tmps)
          pure (if h : vs.size = 1 then vs[0] else .tuple vs)) := fun fn' h' => by
        unfold results
        rw [h']
        congr 1
      rw [hrm fn hrs, List.mapM_toArray]
      simp only [map_eq_pure_bind, bind_assoc, pure_bind, Sem.run_bind, k1, Result.andThen_ok, Sem.run_pure]
    · obtain ⟨i, a0, hi, hk0, hid⟩ := hasPxF_get (List.all_eq_true.1 hV p hp)
      obtain ⟨_, _, q2⟩ := f2.val i a0 (by have := qEj (k := 0) hi hk0; rwa [Nat.zero_add] at this)
      obtain ⟨u, _, z2, z3, _⟩ := hget hi
      have hk := hfr.keep i (by show qE7 al i = true; unfold qE7; rw [hi]; exact hk0)
      have hk : a'.tmps.getD i undef = u := by rw [hk]; exact z3
      rw [hk] at q2
      exact (pxIn_same hid z2 q2).symm
    · refine hsub _ _ _ ?_
      cases ds' with
      | nil =>
        cases r1
        refine ⟨#[], by rfl, rfl⟩
      | cons d ds1 =>
        obtain ⟨u, us1, rfl, _, hd, hrest⟩ := r1
        cases ds1 with
        | nil =>
          cases hrest
          exact hd
        | cons d2 ds2 =>
          have hl2 := qBP hrest
          rw [dif_neg (by simp [hl2])]
          refine ⟨_, rfl, ?_⟩
          have : RepC J' w' false (d :: d2 :: ds2) (u :: us1) := ⟨u, us1, rfl, fun h => by (cases h), hd, hrest⟩
          simpa using this
  refine wp_mono (qBN hmx c _ _ _ w (C := C) hok h hat) fun en a' w' hq => ?_
  obtain ⟨s, hq, ha⟩ := hq
  cases en with
  | normal => exact hfin s a' w' hq ha
  | ret => exact hfin s a' w' hq ha
  | _ => exact hq.elim
end
section
variable {P : Program} {rs : List ResultVar} {r : D} {al : List A} {V' R' : Bx} {s : St}
theorem xf_norm (h : RetXF P rs r al V' R' s) : retXF P rs r al V' R' .normal s := h
theorem qBi (h : RetXF P rs r al V' R' s) : retXF P rs r al V' R' .ret s := h
theorem qA1 {vs : List A} {ds : List D} {l : List (Nat × Nat)} (h1 : qE4 P s rs vs) (h2 : qCS s.β vs = some ds) (h3 : SubD (resD ds) r) (h4 : Forget l ⟨s.σ, qCy s.β vs ++ s.β⟩ ⟨qEN 0 al, V' ++ R'⟩) : RetXF P rs r al V' R' s := ⟨vs, ds, l, h1, h2, h3, h4⟩
end
end Go.Proofs.YtlpnnnmdkglkcaaDoor


/-
  The pure layer: contracts whose result may name boxes: pointers to variables, old ones or new. No condition.
-/
namespace Go.Proofs.YtlpnnnmdkglkcaaDoor
open Go.RowKit

structure PG (P : Program) (f : FuncId) (al : List A) (V R : Bx) (r : A) (V' R' : Bx) : Prop where
  enters : qEG P f
  calls : ∀ (ρ : Nat → Value) (I : Nat → Prop) (w : World) (vs : Array Value), Mem (qDE (V ++ R) ρ I w) (V ++ R) ρ I w → A.insB (V ++ R) al → qBj ρ I w false al vs.toList →
    Calls P f vs w fun e w' => ∃ v ρ' I', e = .returned v ∧ (∀ p ∈ V', ρ' p.1 = ρ p.1) ∧ Mem (qDE (V ++ R) ρ I w) (V' ++ R') ρ' I' w' ∧ RepA ρ' I' w' r v
def resA1 : List A → A
  | [v] => v
  | vs => .tu vs
def RetG (P : Program) (rs : List ResultVar) (r : A) (al : List A) (V' R' : Bx) (s : St) : Prop := ∃ vs l, qE4 P s rs vs ∧ SubA (resA1 (vs.map (frzX s.β))) (r.ren (qAL l)) ∧ Forget l ⟨s.σ, qBU s.β vs ++ s.β⟩ ⟨qEN 0 al, V' ++ R'⟩
def retG (P : Program) (rs : List ResultVar) (r : A) (al : List A) (V' R' : Bx) : Exit → St → Prop
  | .normal, s => RetG P rs r al V' R' s
  | .ret, s => RetG P rs r al V' R' s
  | _, _ => False
theorem repA_res {ρ : Nat → Value} {I : Nat → Prop} {w : World} : ∀ {l : List A} {us : List Value}, qBj ρ I w false l us → RepA ρ I w (resA1 l) (if h : us.toArray.size = 1 then us.toArray[0] else .tuple us.toArray)
  | [], us, h => by
    cases h
    exact ⟨#[], rfl, rfl⟩
  | [a], us, ⟨u, us', h1, _, h3, h4⟩ => by
    cases h4
    subst h1
    exact h3
  | a :: b :: l, us, h => by
    obtain ⟨u, us', h1, h2, h3, u2, us2, h4, h5⟩ := h
    subst h1 h4
    rw [dif_neg (by simp)]
    exact ⟨_, rfl, u, _, rfl, h2, h3, u2, us2, rfl, h5⟩
section
variable {P : Program}
theorem pg_of_aw {f : FuncId} {fn : Func} {c : Code} {al : List A} {V R V' R' : Bx} {r : A} {rs : List ResultVar} (hf : P.funcs[f]? = some fn) (hb : fn.body = some c) (hn : (fn.name == "runtime.NumGoroutine") = false) (hmx : P.follows .mixedOrders = true) (hok : qB8 (qE7 al) fn.ntmps c = true) (hds : al.length ≤ fn.ntmps)
    (hrs : fn.results = rs.toArray) (hV : V'.all (fun p => hasPxF p.1 al) = true) (h : AW P c (retG P rs r al V' R') ⟨argA 0 al, V ++ R⟩) : PG P f al V R r V' R' := by
  refine ⟨qCu hf hb hn, fun ρ I w vs hm hin hr => ?_⟩
  refine calls_of_wp hf hb ?_
  have hvl := qBZ hr
  rw [Array.length_toList] at hvl
  have hget : ∀ {i : Nat} {v : A}, al[i]? = some v → ∃ u, vs[i]? = some u ∧ RepA ρ I w v u ∧ (vs ++ Array.replicate (fn.ntmps - vs.size) undef).getD i undef = u ∧ i < vs.size := fun {i v} hi => by
    obtain ⟨u, h3, h4, _⟩ := qCe hr hi
    have hlt : i < vs.size := by rw [← Array.length_toList]; exact (List.getElem?_eq_some_iff.1 h3).1
    have h5 : vs[i]? = some u := by simpa using h3
    refine ⟨u, h5, h4, ?_, hlt⟩
    rw [Array.getD_eq_getD_getElem?, Array.getElem?_append_left hlt, h5]; rfl
  let C : Ctx := { w0 := w, PB := PBof (V ++ R) ρ, I0 := I, N := fn.ntmps, K := qE7 al, args := fun t => (vs ++ Array.replicate (fn.ntmps - vs.size) undef).getD t undef }
  have hm' : Mem C (V ++ R) ρ I w := hm.ctx rfl rfl rfl
  have hat : At C ⟨argA 0 al, V ++ R⟩ { tmps := vs ++ Array.replicate (fn.ntmps - vs.size) undef, defers := [] } w := by
    refine ⟨ρ, I, hm', rfl, ?_, fun t _ => rfl, fun t v ht => ?_⟩
    · show (vs ++ Array.replicate (fn.ntmps - vs.size) undef).size = fn.ntmps
      simp; omega
    · obtain ⟨i, h1, h2⟩ := qDn ht
      rw [Nat.zero_add] at h1
      subst h1
      obtain ⟨u, h3, h4, h5, h6⟩ := hget h2
      refine ⟨by show t < fn.ntmps; omega, A.insB_mem hin v (List.mem_of_getElem? h2), ?_⟩
      show RepA ρ I w v ((vs ++ Array.replicate (fn.ntmps - vs.size) undef).getD t undef)
      rw [h5]; exact h4
  have hfin : ∀ s a' w', RetG P rs r al V' R' s → At C s a' w' → a'.defers = [] ∧ ∃ v, (results fn a'.tmps).run P w' = .ok v w' ∧
      (∃ v' ρ' I', Ending.returned v = .returned v' ∧ (∀ p ∈ V', ρ' p.1 = ρ p.1) ∧ Mem (qDE (V ++ R) ρ I w) (V' ++ R') ρ' I' w' ∧ RepA ρ' I' w' r v') := by
    rintro s a' w' ⟨vs', l, h1, hsub, hfg⟩ ⟨ρ2, J, hm2, hfr⟩
    obtain ⟨us, k1, k2, k3⟩ := qDe hm2 hfr h1
    obtain ⟨J', m1, x1, q0, r1, _⟩ := qCR _ _ s.β J hm2 k2 k3
    have hul := qBZ r1
    have hfr1 : Fr C s.σ (qBU s.β vs' ++ s.β) ρ2 J' w' a' := ⟨hfr.defers, hfr.size, hfr.keep, fun t v ht => by
      obtain ⟨q1, q2, q3⟩ := hfr.val t v ht
      exact ⟨q1, A.inB_mono (fun i hi => qBy hi) v q2, RepA.ext x1 v _ q2 q3⟩⟩
    have m2 := hfg.mem m1
    have f2 := hfg.fr hfr1
    refine ⟨hfr.defers, (if h : us.toArray.size = 1 then us.toArray[0] else .tuple us.toArray), ?_, _, _, J', rfl, fun p hp => ?_, m2.ctx rfl rfl rfl, ?_⟩
    · have hrm : ∀ fn' : Func, fn'.results = rs.toArray → results fn' a'.tmps = (do
          let vs ← rs.toArray.mapM (qEf a'.tmps)
          pure (if h : vs.size = 1 then vs[0] else .tuple vs)) := fun fn' h' => by
        unfold results
        rw [h']
        congr 1
      rw [hrm fn hrs, List.mapM_toArray]
      simp only [map_eq_pure_bind, bind_assoc, pure_bind, Sem.run_bind, k1, Result.andThen_ok, Sem.run_pure]
    · obtain ⟨i, a0, hi, hk0, hid⟩ := hasPxF_get (List.all_eq_true.1 hV p hp)
      obtain ⟨_, _, q2⟩ := f2.val i a0 (by have := qEj (k := 0) hi hk0; rwa [Nat.zero_add] at this)
      obtain ⟨u, _, z2, z3, _⟩ := hget hi
      have hk := hfr.keep i (by show qE7 al i = true; unfold qE7; rw [hi]; exact hk0)
      have hk : a'.tmps.getD i undef = u := by rw [hk]; exact z3
      rw [hk] at q2
      exact (pxIn_same hid z2 q2).symm
    · exact RepA.ren _ r _ (hsub _ _ _ _ (repA_res r1))
  refine wp_mono (qBN hmx c _ _ _ w (C := C) hok h hat) fun en a' w' hq => ?_
  obtain ⟨s, hq, ha⟩ := hq
  cases en with
  | normal => exact hfin s a' w' hq ha
  | ret => exact hfin s a' w' hq ha
  | _ => exact hq.elim
end
section
variable {P : Program} {dst : Option Nat} {ty : TypeId} {e : Operand → A} {β : Bx}
theorem does_callG {x : Operand} {args : Array Operand} {ts : Array TypeId} {f : FuncId} {first captured : List A} {al : List A} {V R V' R' : Bx} {r : A} (ren ren' : List (Nat × Nat)) {ups : Bx} {rd : List Nat}
    (hx : e x = .fn (.func f) first captured) (hpc : PG P f al V R r V' R') (has : (first ++ args.toList.map e ++ captured).map (frzX β) = A.rens (qAL ren) al)
    (hb : qEt (qAL ren) (qBU β (first ++ args.toList.map e ++ captured) ++ β) (V ++ R)) (ho : qDo (qAL ren) (V ++ R) = true) (hin : inBb (V ++ R) (V ++ R)) (hia : A.insB (V ++ R) al)
    (hkeys : V'.map (·.1) = V.map (·.1)) (hvv : V'.all (fun p => qAL ren' p.1 == qAL ren p.1) = true) (hlv : V.all (fun p => p.2.live) = true)
    (ho' : qDo (qAL ren') (V' ++ R') = true) (hfresh : R'.all (fun p => (look (qAL ren' p.1) (qBU β (first ++ args.toList.map e ++ captured) ++ β)).isNone) = true) (hin' : inBb (V' ++ R') (V' ++ R')) (hir : r.inB (V' ++ R'))
    (hups : ups = renB (qAL ren') (V' ++ R') ++ qCo (qAL ren) R ++ qBU β (first ++ args.toList.map e ++ captured)) (hrd : rd = (V ++ R).map (fun p => qAL ren p.1) ++ (first ++ args.toList.map e ++ captured).flatMap idsV) :
    Does P dst (.call { callee := .value x, args := args, argTypes := ts }) ty e β (r.ren (qAL ren')) ups rd := by
  subst hups hrd
  generalize hL : first ++ args.toList.map e ++ captured = L at *
  intro C γ hag ρ I w hm a hops o hop hd hty K Q hK
  obtain ⟨fi, ca, h1, h2, h3⟩ := qDZ hx hops
  rw [hL] at h2 h3
  obtain ⟨e1, e2⟩ := qD5 (fun id hid => hag id (List.mem_append_left _ (List.mem_append_right _ hid)))
  obtain ⟨I1, m1, x1, b1, r1, _⟩ := qCR _ _ γ I hm h2 h3
  rw [e1, has] at r1
  rw [e2] at m1
  generalize hU : qBU β L = U at *
  have hagU : ∀ id, look id γ = look id β → look id (U ++ γ) = look id (U ++ β) := fun id h => by rw [qAI, qAI, h]
  have hkb : ∀ {i : Nat} {b : Box}, look i (V ++ R) = some b → look (qAL ren i) (U ++ γ) = some (b.ren (qAL ren)) := fun {i b} hi => by
    rw [hagU _ (hag _ (List.mem_append_left _ (List.mem_append_left _ (List.mem_map.2 ⟨(i, b), qBn hi, rfl⟩))))]
    exact qCw hb hi
  have hfr : ∀ p ∈ R', look (qAL ren' p.1) (U ++ γ) = none := fun p hp => by
    have h0 := List.all_eq_true.1 hfresh p hp
    have h0 : look (qAL ren' p.1) (U ++ β) = none := by simpa using h0
    have hmem : qAL ren' p.1 ∈ (renB (qAL ren') (V' ++ R') ++ qCo (qAL ren) R ++ U).map (·.1) := by
      rw [List.map_append, List.map_append]
      refine List.mem_append_left _ (List.mem_append_left _ ?_)
      exact List.mem_map.2 ⟨(qAL ren' p.1, p.2.ren (qAL ren')), List.mem_map.2 ⟨p, List.mem_append_right _ hp, rfl⟩, rfl⟩
    rw [hagU _ (hag _ (List.mem_append_right _ hmem))]
    exact h0
  have hmc : Mem (qDE (V ++ R) (fun i => ρ (qAL ren i)) I1 w) (V ++ R) (fun i => ρ (qAL ren i)) I1 w :=
    { os := rfl, tape := rfl, output := rfl, size := Nat.le_refl _, frame := fun _ _ _ => rfl, imm := m1.imm, new := fun g hg => .inl hg,
      box := fun i b hi => qCj.ren (m1.box _ _ (hkb hi)),
      own := fun i b g hi hl hg => by
        obtain ⟨q1, q2, _⟩ := m1.own _ _ g (hkb hi) (by rw [qBG]; exact hl) hg
        exact ⟨q1, q2, .inr ⟨i, b, hi, hl, hg⟩⟩,
      inj := fun i j b b' g hi hj hl hl' hg hg' => qCU ho (qBn hi) (qBn hj) (m1.inj _ _ _ _ g (hkb hi) (hkb hj) (by rw [qBG]; exact hl) (by rw [qBG]; exact hl') hg hg'),
      clo := fun i b hi => qDW hin hi,
      gl := m1.gl }
  unfold Oper.wp
  rw [qEP hpc.enters rfl h1 o hop, Oper.upon_enter]
  have hre : qBj (fun i => ρ (qAL ren i)) I1 w false al (fi ++ args.map a.eval ++ ca).toList := qBj.ren (qAL ren) false al _ r1
  refine (hpc.calls _ I1 w _ hmc hia hre).mono fun en w' ⟨v, ρ', I', he, hρ, hm', hr'⟩ => ?_
  subst he
  let fresh : Nat → Prop := fun i => ∃ p ∈ R', qAL ren' p.1 = i
  have hdec : ∀ i, fresh i ∨ ¬ fresh i := fun i => Classical.em _
  -- where each box lies qEv the call
  obtain ⟨ρ2, hρ2, hρ3⟩ : ∃ ρ2 : Nat → Value, (∀ p ∈ R', ρ2 (qAL ren' p.1) = ρ' p.1) ∧ ∀ i, ¬ fresh i → ρ2 i = ρ i := by
    classical
    refine ⟨fun i => if h : fresh i then ρ' h.choose.1 else ρ i, fun p hp => ?_, fun i hi => dif_neg hi⟩
    have hf : fresh (qAL ren' p.1) := ⟨p, hp, rfl⟩
    simp only [dif_pos hf]
    obtain ⟨hq1, hq2⟩ := hf.choose_spec
    exact congrArg ρ' (qCU ho' (b := hf.choose.2) (b' := p.2) (List.mem_append_right _ hq1) (List.mem_append_right _ hp) hq2)
  have hvk : ∀ {i : Nat} {b : Box}, look i (V' ++ R') = some b → (i, b) ∈ V' ∨ (i, b) ∈ R' := fun {i b} h => List.mem_append.1 (qBn h)
  have hvar : ∀ {i : Nat} {b : Box}, (i, b) ∈ V' → qAL ren' i = qAL ren i ∧ ∃ b0, look i (V ++ R) = some b0 ∧ b0.live = true := fun {i b} h => by
    refine ⟨by simpa using List.all_eq_true.1 hvv _ h, ?_⟩
    have hm0 : i ∈ V.map (·.1) := by rw [← hkeys]; exact List.mem_map.2 ⟨_, h, rfl⟩
    obtain ⟨b0, hb0⟩ := qBF hm0
    refine ⟨b0, by rw [qAI, hb0]; rfl, List.all_eq_true.1 hlv _ (qBn hb0)⟩
  have hnf : ∀ {i : Nat} {b : Box}, (i, b) ∈ V' → ¬ fresh (qAL ren i) := fun {i b} h hf => by
    obtain ⟨p, hp, hpe⟩ := hf
    obtain ⟨_, b0, hb0, _⟩ := hvar h
    have := hfr p hp
    rw [hpe, hkb hb0] at this
    cases this
  have hval : ∀ {i : Nat} {b : Box}, look i (V' ++ R') = some b → ρ2 (qAL ren' i) = ρ' i := fun {i b} h => by
    rcases hvk h with h | h
    · obtain ⟨q1, _⟩ := hvar h
      rw [q1, hρ3 _ (hnf h)]
      exact (hρ (i, b) h).symm
    · exact hρ2 (i, b) h
  let I2 : Nat → Prop := fun g => I1 g ∨ I' g
  have hPB : ∀ g, PBof (V ++ R) (fun i => ρ (qAL ren i)) g → ∃ id b, look id (U ++ γ) = some b ∧ b.live = true ∧ blk (ρ id) = some g ∧ g < w.heap.size ∧ ¬ I1 g ∧ (C.w0.heap.size ≤ g ∨ C.PB g) ∧ ∃ i b0, look i (V ++ R) = some b0 ∧ qAL ren i = id := fun g ⟨i, b, hi, hl, hg⟩ => by
    obtain ⟨q1, q2, q3⟩ := m1.own _ _ g (hkb hi) (by rw [qBG]; exact hl) hg
    exact ⟨_, _, hkb hi, by rw [qBG]; exact hl, hg, q1, q2, q3, i, b, hi, rfl⟩
  have hupsL : ∀ {i : Nat}, (∃ b, look i (V ++ R) = some b) → look (qAL ren i) (renB (qAL ren') (V' ++ R') ++ qCo (qAL ren) R) ≠ none := fun {i} ⟨b, hb⟩ => by
    rw [qAI] at hb
    rw [qAI]
    cases hv : look i V with
    | some b1 =>
      have hm0 : i ∈ V'.map (·.1) := by rw [hkeys]; exact List.mem_map.2 ⟨_, qBn hv, rfl⟩
      obtain ⟨b2, hb2⟩ := qBF hm0
      obtain ⟨q1, _⟩ := hvar (qBn hb2)
      obtain ⟨b3, hb3⟩ := qCn (π := qAL ren') (β := V' ++ R') (i := i) (b := b2) (by rw [qAI, hb2]; rfl)
      rw [← q1, hb3]; simp
    | none =>
      rw [hv] at hb
      have hb : look i R = some b := by simpa using hb
      obtain ⟨b2, hb2⟩ := qBF (l := qCo (qAL ren) R) (t := qAL ren i) (List.mem_map.2 ⟨(qAL ren i, .dead), List.mem_map.2 ⟨(i, b), qBn hb, rfl⟩, rfl⟩)
      rw [hb2]
      cases look (qAL ren i) (renB (qAL ren') (V' ++ R')) <;> simp
  have hx2 : Ext (U ++ γ) ρ I1 w ρ2 I2 w' := ⟨⟨fun g h => .inl h, fun g h => by
    refine hm'.frame g (m1.imm g h) fun hp => ?_
    obtain ⟨_, _, _, _, _, _, q, _⟩ := hPB g hp
    exact q h⟩, fun i hi => hρ3 i fun ⟨p, hp, hpe⟩ => hi (by rw [← hpe]; exact hfr p hp)⟩
  have hmono : ExtI I' w' I2 w' := ⟨fun g h => .inr h, fun _ _ => rfl⟩
  have hold0 : ∀ id b g, look id (U ++ γ) = some b → look id (renB (qAL ren') (V' ++ R') ++ qCo (qAL ren) R) = none → b.live = true → blk (ρ id) = some g → ¬ PBof (V ++ R) (fun i => ρ (qAL ren i)) g := fun id b g h1 h2 h3 h4 hp => by
    obtain ⟨id2, b2, q1, q2, q3, _, _, _, i, b0, q4, q5⟩ := hPB g hp
    have := m1.inj id id2 b b2 g h1 q1 h3 q2 h4 q3
    rw [this, ← q5] at h2
    exact hupsL ⟨b0, q4⟩ h2
  have hlive : ∀ {i : Nat} {b : Box}, look i (V' ++ R') = some b → b.live = true → ∀ g, blk (ρ2 (qAL ren' i)) = some g → g < w'.heap.size ∧ ¬ I2 g ∧ (C.w0.heap.size ≤ g ∨ C.PB g) ∧ (w.heap.size ≤ g ∨ PBof (V ++ R) (fun i => ρ (qAL ren i)) g) := fun {i b} h hl g hg => by
    rw [hval h] at hg
    obtain ⟨q1, q2, q3⟩ := hm'.own i b g h hl hg
    refine ⟨q1, fun h0 => ?_, ?_, q3⟩
    · rcases h0 with h0 | h0
      · rcases q3 with q3 | q3
        · exact absurd (m1.imm g h0) (by have : w.heap.size ≤ g := q3; omega)
        · obtain ⟨_, _, _, _, _, _, q, _⟩ := hPB g q3
          exact q h0
      · exact q2 h0
    · rcases q3 with q3 | q3
      · exact .inl (Nat.le_trans m1.size q3)
      · obtain ⟨_, _, _, _, _, _, _, q, _⟩ := hPB g q3
        exact q
  have hmem := m1.upd (renB (qAL ren') (V' ++ R') ++ qCo (qAL ren) R) hx2 hm'.os hm'.tape hm'.output hm'.size
    (fun g h => by
      rcases h with h | h
      · exact Nat.lt_of_lt_of_le (m1.imm g h) hm'.size
      · exact hm'.imm g h)
    (fun g h => by
      rcases h with h | h
      · exact .inl h
      · rcases hm'.new g h with h | h | h
        · exact .inl h
        · exact .inr (.inl (Nat.le_trans m1.size h))
        · obtain ⟨_, _, _, _, _, _, _, q, _⟩ := hPB g h
          exact .inr q)
    (PBof (V ++ R) (fun i => ρ (qAL ren i))) (fun k hk hp => hm'.frame k hk hp) (fun k hk => by
      obtain ⟨_, _, _, _, _, _, _, q, _⟩ := hPB k hk
      exact q)
    (fun id b g h1 h2 h3 h4 => by
      refine ⟨hold0 id b g h1 h2 h3 h4, fun h => ?_⟩
      obtain ⟨q1, q2, _⟩ := m1.own id b g h1 h3 h4
      rcases h with h | h
      · exact q2 h
      · rcases hm'.new g h with h | h | h
        · exact q2 h
        · exact absurd q1 (by have : w.heap.size ≤ g := h; omega)
        · exact hold0 id b g h1 h2 h3 h4 h)
    (fun id b h => by
      rw [qAI] at h
      cases hv : look id (renB (qAL ren') (V' ++ R')) with
      | none =>
        rw [hv] at h
        obtain ⟨rfl, _⟩ := qC6 (h : look id (qCo (qAL ren) R) = some b)
        exact ⟨trivial, trivial, fun h => by cases h⟩
      | some b1 =>
        rw [hv] at h
        have h : b1 = b := by simpa using h
        subst h
        obtain ⟨i, b0, q1, q2, rfl, rfl⟩ := qCD ho' hv
        refine ⟨?_, ?_, fun hl g hg => ?_⟩
        · have hb1 := hm'.box i b0 q1
          have hb2 : qCj (fun i => ρ2 (qAL ren' i)) I2 w' i b0 := by
            have hcl := hm'.clo i b0 q1
            cases b0 with
            | var T cs =>
              obtain ⟨g, us, z1, z2, z3⟩ := hb1
              refine ⟨g, us, (hval q1).trans z1, z2, qBj.ext (β := V' ++ R') ⟨hmono, fun j hj => ?_⟩ true cs _ hcl z3⟩
              obtain ⟨bj, hbj⟩ := Option.ne_none_iff_exists'.1 hj
              exact hval hbj
            | row E sz es =>
              obtain ⟨xs, z1, z2⟩ := hb1
              have e0 := hval q1
              refine ⟨xs, ?_, RepR.ext hmono sz es xs z2⟩
              show w'.ownsRow 0 E sz (ρ2 (qAL ren' i)) es.length xs
              rw [e0]; exact z1
            | frz sz es =>
              show RepD I2 w' (.sl sz es) (ρ2 (qAL ren' i))
              rw [hval q1]; exact RepD.ext hmono _ _ hb1
            | itr s pos =>
              obtain ⟨g, z1, z2⟩ := hb1
              exact ⟨g, (hval q1).trans z1, z2⟩
            | dead => trivial
          exact qCj.unren hb2
        · have hd : ∀ j, dom (V' ++ R') j → dom ((renB (qAL ren') (V' ++ R') ++ qCo (qAL ren) R) ++ (U ++ γ)) (qAL ren' j) := fun j hj => by
            obtain ⟨bj, hbj⟩ := Option.ne_none_iff_exists'.1 hj
            obtain ⟨b3, hb3⟩ := qCn (π := qAL ren') hbj
            unfold dom
            rw [qAI, qAI, hb3]; simp
          have hcl := hm'.clo i b0 q1
          cases b0 with
          | var T cs => exact A.insB_ren hd cs hcl
          | _ => trivial
        · rw [qBG] at hl
          obtain ⟨z1, z2, z3, z4⟩ := hlive q1 hl g hg
          refine ⟨z1, z2, z3, fun id2 b2 y1 y2 y3 y4 => ?_⟩
          rcases z4 with z4 | z4
          · exact absurd (m1.own id2 b2 g y1 y3 y4).1 (by omega)
          · exact hold0 id2 b2 g y1 y2 y3 y4 z4)
    (fun i j b b' g h h' hl hl' hg hg' => by
      have hsplit : ∀ {id : Nat} {b : Box}, look id (renB (qAL ren') (V' ++ R') ++ qCo (qAL ren) R) = some b → b.live = true → look id (renB (qAL ren') (V' ++ R')) = some b := fun {id b} h hl => by
        rw [qAI] at h
        cases hv : look id (renB (qAL ren') (V' ++ R')) with
        | none =>
          rw [hv] at h
          obtain ⟨rfl, _⟩ := qC6 (h : look id (qCo (qAL ren) R) = some b)
          cases hl
        | some b1 => rw [hv] at h; simpa using h
      obtain ⟨i0, b0, q1, _, rfl, rfl⟩ := qCD ho' (hsplit h hl)
      obtain ⟨j0, b0', q2, _, rfl, rfl⟩ := qCD ho' (hsplit h' hl')
      rw [hval q1] at hg
      rw [hval q2] at hg'
      rw [qBG] at hl hl'
      rw [hm'.inj i0 j0 b0 b0' g q1 q2 hl hl' hg hg'])
  rw [hd]
  rw [← List.append_assoc] at hmem
  have hdr : ∀ j, dom (V' ++ R') j → dom (renB (qAL ren') (V' ++ R') ++ qCo (qAL ren) R ++ U ++ γ) (qAL ren' j) := fun j hj => by
    obtain ⟨bj, hbj⟩ := Option.ne_none_iff_exists'.1 hj
    obtain ⟨b3, hb3⟩ := qCn (π := qAL ren') hbj
    unfold dom
    rw [qAI, qAI, qAI, hb3]; simp
  refine hK v ρ2 I2 w' hmem (x1.trans hx2 (fun i hi => qBy hi)) (A.inB_ren hdr r hir) (RepA.unren _ r v (RepA.ext (β := V' ++ R') ⟨hmono, fun j hj => ?_⟩ r v hir hr'))
  obtain ⟨bj, hbj⟩ := Option.ne_none_iff_exists'.1 hj
  exact hval hbj
theorem qDI {x : Operand} {args : Array Operand} {ts : Array TypeId} {f : FuncId} {first captured : List A} {al : List A} {V R V' R' : Bx} {r : A} (ren ren' : List (Nat × Nat)) {ups : Bx} {rd : List Nat} {v : A}
    (hx : e x = .fn (.func f) first captured) (hpc : PG P f al V R r V' R') (has : (first ++ args.toList.map e ++ captured).map (frzX β) = A.rens (qAL ren) al)
    (hb : qEt (qAL ren) (qBU β (first ++ args.toList.map e ++ captured) ++ β) (V ++ R)) (ho : qDo (qAL ren) (V ++ R) = true) (hin : inBb (V ++ R) (V ++ R)) (hia : A.insB (V ++ R) al)
    (hkeys : V'.map (·.1) = V.map (·.1)) (hvv : V'.all (fun p => qAL ren' p.1 == qAL ren p.1) = true) (hlv : V.all (fun p => p.2.live) = true)
    (ho' : qDo (qAL ren') (V' ++ R') = true) (hfresh : R'.all (fun p => (look (qAL ren' p.1) (qBU β (first ++ args.toList.map e ++ captured) ++ β)).isNone) = true) (hin' : inBb (V' ++ R') (V' ++ R')) (hir : r.inB (V' ++ R'))
    (hups : ups = renB (qAL ren') (V' ++ R') ++ qCo (qAL ren) R ++ qBU β (first ++ args.toList.map e ++ captured)) (hrd : rd = (V ++ R).map (fun p => qAL ren p.1) ++ (first ++ args.toList.map e ++ captured).flatMap idsV) (hv : r.ren (qAL ren') = v) :
    Does P dst (.call { callee := .value x, args := args, argTypes := ts }) ty e β v ups rd := by
  subst hv
  exact does_callG ren ren' hx hpc has hb ho hin hia hkeys hvv hlv ho' hfresh hin' hir hups hrd
end
section
variable {P : Program} {rs : List ResultVar} {r : A} {al : List A} {V' R' : Bx} {s : St}
theorem xg_ret (h : RetG P rs r al V' R' s) : retG P rs r al V' R' .ret s := h
theorem retg_ok {vs : List A} {l : List (Nat × Nat)} (h1 : qE4 P s rs vs) (h2 : SubA (resA1 (vs.map (frzX s.β))) (r.ren (qAL l))) (h4 : Forget l ⟨s.σ, qBU s.β vs ++ s.β⟩ ⟨qEN 0 al, V' ++ R'⟩) : RetG P rs r al V' R' s := ⟨vs, l, h1, h2, h4⟩
end
end Go.Proofs.YtlpnnnmdkglkcaaDoor


/-
  The pure layer: the steps of a region that draws its order and reads a cell. No condition.
-/
namespace Go.Proofs.YtlpnnnmdkglkcaaDoor
open Go.RowKit

theorem qFP {p : Nat × Nat} {β γ : Bx} (h : qCJ p γ = qCJ p β) : AgreeW [p] β γ := fun q hq => by
  rw [List.mem_singleton] at hq
  subst hq
  exact h
section
variable {P : Program} {all r : List Oper} {σ : Sl} {β δ ups : Bx} {K : Sl → Bx → Prop} {t : Nat} {op : Op} {ty : TypeId} {pos : String} {af : Array Edge} {v : A} {rd : List Nat} {rs : List Rec} {p : Nat × Nat} {i : Nat} {b : Box}
theorem wr (hs : Does P (some t) op ty (ev σ) β v [] rd) (h : runW P all [p] r ((t, v) :: σ) β (qDg all ⟨some t, op, ty, pos, af, none⟩ [] rd :: rs) K) : runW P all [p] (⟨some t, op, ty, pos, af, none⟩ :: r) σ β rs K := ⟨v, [], rd, .inl hs, qFP rfl, h⟩
theorem wr1 (hs : Does P (some t) op ty (ev σ) β v [(i, b)] rd) (hk : qCJ p ((i, b) :: β) = qCJ p β) (h : runW P all [p] r ((t, v) :: σ) ((i, b) :: β) (qDg all ⟨some t, op, ty, pos, af, none⟩ [(i, b)] rd :: rs) K) : runW P all [p] (⟨some t, op, ty, pos, af, none⟩ :: r) σ β rs K := ⟨v, _, rd, .inl hs, qFP hk, h⟩
theorem wrN (hs : Does P none op ty (ev σ) β v [(i, b)] rd) (hk : qCJ p ((i, b) :: β) = qCJ p β) (h : runW P all [p] r σ ((i, b) :: β) (qDg all ⟨none, op, ty, pos, af, none⟩ [(i, b)] rd :: rs) K) : runW P all [p] (⟨none, op, ty, pos, af, none⟩ :: r) σ β rs K := ⟨v, _, rd, .inl hs, qFP hk, h⟩
theorem wrL (hs : Does P (some t) op ty (ev σ) β v ups rd) (he : ups ++ β = δ) (hk : qCJ p δ = qCJ p β) (h : runW P all [p] r ((t, v) :: σ) δ (qDg all ⟨some t, op, ty, pos, af, none⟩ ups rd :: rs) K) : runW P all [p] (⟨some t, op, ty, pos, af, none⟩ :: r) σ β rs K := ⟨v, _, rd, .inl hs, qFP (by rw [he]; exact hk), he ▸ h⟩
theorem wrC (hs : DoesW [p] P (some t) op ty (ev σ) β v []) (h : runW P all [p] r ((t, v) :: σ) β (qDg all ⟨some t, op, ty, pos, af, none⟩ [] [] :: rs) K) : runW P all [p] (⟨some t, op, ty, pos, af, none⟩ :: r) σ β rs K := ⟨v, [], [], .inr ⟨rfl, rfl, hs⟩, qFP rfl, h⟩
theorem w_nil (ho : qEk rs.reverse = true) (h : K σ β) : runW P all [p] [] σ β rs K := ⟨ho, h⟩
end
theorem doesW_load {P : Program} {dst : Option Nat} {ty : TypeId} {e : Operand → A} {β : Bx} {T T0 : TypeId} {t : TyI} {x : Operand} {id off : Nat} {cs : List A} {v : A} (ht : mkTy P T = some t) (hr : t.row = false) (hx : e x = .px id off) (hl : look id β = some (.var T0 cs)) (hv : cs[off]? = some v) :
    DoesW [(id, off)] P dst (.load T x) ty e β v [] := by
  intro C γ _ hag ρ I w hm a hops o ho hd hty K Q hK
  have hc := hag (id, off) List.mem_cons_self
  unfold qCJ at hc
  rw [hl] at hc
  cases hg : look id γ with
  | none => rw [hg] at hc; cases hc
  | some b =>
    rw [hg] at hc
    cases b with
    | var T1 cs1 =>
      injection hc with hc
      injection hc with _ hc
      injection hc with _ hc
      exact qAi (P := P) (dst := dst) (ty := ty) (β := γ) ht hr hx hg (hc.trans hv) C γ (fun _ _ => rfl) ρ I w hm a hops o ho hd hty K Q hK
    | _ => cases hc
end Go.Proofs.YtlpnnnmdkglkcaaDoor


/-
  The pure layer: functions of Go's library qCG a body; floats held against each other. No condition.
-/
namespace Go.Proofs.YtlpnnnmdkglkcaaDoor
open Go.RowKit

structure ExtF (P : Program) (f : FuncId) (g : Array Value → Sem Value) : Prop where
  has : ∃ fn, P.funcs[f]? = some fn ∧ (fn.name == "runtime.NumGoroutine") = false ∧ fn.body.isNone = true ∧ Extern.findNext fn = none ∧ Extern.find fn = some g
theorem run_ext {P : Program} {f : FuncId} {g : Array Value → Sem Value} (h : ExtF P f g) {args : Array Value} {w : World} {v : Value} (hg : (g args).run P w = .ok v w) : (callFunc f args).run P w = .ok (.value v) w := by
  obtain ⟨fn, hf, hn, hb, hx, he⟩ := h.has
  unfold callFunc
  have : ¬ fn.name = "runtime.NumGoroutine" := by simpa using hn
  have hb2 : fn.body = none := by simpa using hb
  have hm : Sem.run P (Sem.mark (Mark.extern f) (Sem.pure ())) w = .ok () w := rfl
  simp [Sem.run_bind, hf, hb2, this, mark, hx, he, hg, hm]
section
variable {P : Program} {dst : Option Nat} {ty : TypeId} {e : Operand → A} {β : Bx} {T T' : TypeId} {x y : Operand}
theorem does_ext1 {f : FuncId} {g : Array Value → Sem Value} {z : Operand} {ts : Array TypeId} {u v : Value} (hf : ExtF P f g) (hx : e x = .fn (.func f) [] []) (hz : e z = .d (.sc u)) (hg : ∀ w, (g #[u]).run P w = .ok v w) (hv : v.oneCell' = true) :
    Does P dst (.call { callee := .value x, args := #[z], argTypes := ts }) ty e β (.d (.sc v)) [] [] :=
  Does.of_run fun C γ _ ρ I w _ a hops o ho _ => by
    have h1 := (hops x (by simp [Op.operands, Call.operands])).2
    have h2 := (hops z (by simp [Op.operands, Call.operands])).2
    rw [hx] at h1
    rw [hz] at h2
    obtain ⟨us, vs, h1, h3, h4⟩ := h1
    have h3 : us.toList = [] := h3
    have h4 : vs.toList = [] := h4
    have e1 : us = #[] := by simpa using h3
    have e2 : vs = #[] := by simpa using h4
    subst e1 e2
    have h2 : a.eval z = u := (qBu h2)
    refine ⟨v, ?_, trivial, rfl, hv⟩
    simp only [execOp, ho, resolve, Sem.run_bind, h1, Deferred.ofValue, Sem.run_pure, Result.andThen_ok, invoke]
    have := run_ext hf (hg w)
    simpa [h2] using this
def fltD (b : Nat) : D := .sc (.float .f64 b)
def fltV (bo : BinOp) (a b : Nat) : Bool := match bo with
  | .lss => FloatKind.f64.format.order a b == some .lt
  | .gtr => FloatKind.f64.format.order a b == some .gt
  | .eql => FloatKind.f64.format.order a b == some .eq
  | .neq => FloatKind.f64.format.order a b != some .eq
  | _ => false
theorem does_flt {bo : BinOp} {a b : Nat} (hx : e x = .d (fltD a)) (hy : e y = .d (fltD b)) (hk : bo = .lss ∨ bo = .gtr ∨ bo = .eql ∨ bo = .neq) : Does P dst (.binOp bo T x y T') ty e β (.d (bD (fltV bo a b))) [] [] :=
  Does.of_run fun C γ _ ρ I w _ ac hops o ho _ => by
    have h1 := (hops x (by simp [Op.operands])).2
    have h2 := (hops y (by simp [Op.operands])).2
    rw [hx] at h1
    rw [hy] at h2
    have h1 := qBu h1
    have h2 := qBu h2
    refine ⟨.bool (fltV bo a b), ?_, trivial, rfl, rfl⟩
    unfold execOp
    simp only [ho, h1, h2]
    rcases hk with rfl | rfl | rfl | rfl <;> (simp [eqGuard, binOp, Op.floatCmp, fltV, Sem.run_bind]; done)
end
end Go.Proofs.YtlpnnnmdkglkcaaDoor

