/-
  The pure layer: a range over a text; a rune as a text. No condition.
-/
import Derived.Test.YtfplkakfakdfhaaDoorZC
import Derived.Lib.OthersKept
import Derived.Laws.RangeAny
import Derived.Laws.Runes
import Derived.Test.YtfplkakfakdfhaaDoorZB
namespace Go.Proofs.YtfplkakfakdfhaaDoor
set_option linter.unusedSimpArgs false
set_option linter.unusedVariables false
open Go.RowKit

section
variable {P : Program} {fr : Nat} {dst : Option Nat} {ty : TypeId} {e : Operand → A} {β : Bx}
theorem does_range {T : TypeId} {t : TyI} {x : Operand} {s : ByteArray} (ht : mkTy P T = some t) (hk : t.kind = .str) (hx : e x = .d (strD s)) (hf : look fr β = none) : Does P (some fr) (.range T x) ty e β (.px fr 0) [(fr, .itr s 0)] [] := by
  intro C γ hag ρ I w hm a hops o ho hd hty K Q hK
  obtain ⟨i, d, z, _, hd', _, _, _, _, _, hkd⟩ := mkTy_spec ht
  have hd2 : P.underlying T = some .string := by rw [hd', kind_str (hkd.symm.trans hk)]
  have hf2 : look fr γ = none := (hag fr (by simp)).trans hf
  have hv := (hops x (by simp [Op.operands])).2
  rw [hx] at hv
  have hv := repA_sc hv
  obtain ⟨h1, h2⟩ := hm.new_box hf2 (v := .pointer (some ⟨w.heap.size, 0, none⟩)) (b := .itr s 0) (grownBy_alloc' w (.stringIter s 0)) (fun g hg => by
      simp only [blk, Option.some.injEq] at hg; subst hg; simp) (fun hx => ⟨w.heap.size, by rw [upd_same], push_at w _⟩) trivial
  unfold Oper.wp
  have hrun : (execOp a.eval o).run P w = .ok (.value (.pointer (some ⟨w.heap.size, 0, none⟩))) { w with heap := w.heap.push (.stringIter s 0) } := by
    unfold execOp
    simp only [ho, hv]
    simp only [Sem.run_bind]
    rw [run_range_string w T s hd2]
    rfl
  rw [hrun, Oper.upon_value, hd]
  exact hK _ _ I _ h1 h2 (by unfold A.inB dom; simp [look_append, look_cons]) ⟨w.heap.size, by rw [upd_same], rfl⟩
theorem iterAt_grown (w : World) (k : Nat) (s : ByteArray) (pos : Nat) : w.grownBy (w.iterAt k s pos) (some k) :=
  ⟨rfl, rfl, rfl, by simp [World.iterAt], fun j hj hne => Lib.iterAt_other w k j s pos (fun e => hne (by rw [e]))⟩
theorem does_next {x : Operand} {id : Nat} {s : ByteArray} {pos : Nat} (hx : e x = .px id 0) (hl : look id β = some (.itr s pos)) (hp : pos < s.size) :
    Does P dst (.next x true) ty e β (.d (.tu [bD true, iD pos, .sc (.int .i32 ((Utf8.decode s pos).1 : Nat))])) [(id, .itr s (pos + (Utf8.decode s pos).2))] [id] := by
  intro C γ hag ρ I w hm a hops o ho hd hty K Q hK
  have hl2 : look id γ = some (.itr s pos) := (hag id (by simp)).trans hl
  obtain ⟨hb, hv⟩ := hops x (by simp [Op.operands])
  rw [hx] at hv
  obtain ⟨g, hg, hv⟩ := hv
  obtain ⟨g', k1, k2⟩ := hm.box id _ hl2
  rw [hg] at k1
  injection k1 with k1; injection k1 with k1; injection k1 with k1
  subst k1
  have hmem := hm.set_box hl2 rfl (g := g) (by rw [hg]; rfl) (iterAt_grown w g s (pos + (Utf8.decode s pos).2)) (b := .itr s (pos + (Utf8.decode s pos).2)) (fun hx => ⟨g, hg, Lib.iterAt_heap w g s pos _ k2⟩) trivial
  unfold Oper.wp
  have hrun : (execOp a.eval o).run P w = .ok (.value (.tuple #[.bool true, .int .i64 pos, .int .i32 (Utf8.decode s pos).1])) (w.iterAt g s (pos + (Utf8.decode s pos).2)) := by
    unfold execOp
    simp only [ho, hv]
    simp only [Sem.run_bind]
    rw [Lib.run_next_any_at w g s pos _ k2 hp]
    simp [Sem.run_bind]
  rw [hrun, Oper.upon_value, hd]
  exact hK _ ρ I _ hmem.1 hmem.2 trivial ⟨_, rfl, ⟨_, _, rfl, nofun, ⟨rfl, rfl⟩, ⟨_, _, rfl, nofun, ⟨rfl, rfl⟩, ⟨_, _, rfl, nofun, ⟨rfl, rfl⟩, rfl⟩⟩⟩⟩
theorem does_next_end {x : Operand} {id : Nat} {s : ByteArray} {pos : Nat} (hx : e x = .px id 0) (hl : look id β = some (.itr s pos)) (hp : s.size ≤ pos) :
    Does P dst (.next x true) ty e β (.d (.tu [bD false])) [] [id] := by
  intro C γ hag ρ I w hm a hops o ho hd hty K Q hK
  have hl2 : look id γ = some (.itr s pos) := (hag id (by simp)).trans hl
  obtain ⟨hb, hv⟩ := hops x (by simp [Op.operands])
  rw [hx] at hv
  obtain ⟨g, hg, hv⟩ := hv
  obtain ⟨g', k1, k2⟩ := hm.box id _ hl2
  rw [hg] at k1
  injection k1 with k1; injection k1 with k1; injection k1 with k1
  subst k1
  unfold Oper.wp
  have hrun : (execOp a.eval o).run P w = .ok (.value (.tuple #[.bool false])) w := by
    unfold execOp
    simp only [ho, hv]
    simp only [Sem.run_bind]
    rw [Lib.run_next_end_at w g s pos _ k2 (by omega)]
    simp [Sem.run_bind]
  rw [hrun, Oper.upon_value, hd]
  exact hK _ ρ I _ hm ⟨⟨fun _ h => h, fun _ _ => rfl⟩, fun _ _ => rfl⟩ trivial ⟨_, rfl, ⟨_, _, rfl, nofun, ⟨rfl, rfl⟩, rfl⟩⟩
theorem does_conv_rune {S T : TypeId} {s t : TyI} {x : Operand} {k : IntKind} {n : Int} (hs : mkTy P S = some s) (ht : mkTy P T = some t) (hk : t.kind = .str) (hx : e x = .d (.sc (.int k n))) : Does P dst (.convert S T x) ty e β (.d (strD (Utf8.encode n))) [] [] :=
  Does.of_run fun C γ _ ρ I w _ a hops o ho _ => by
    obtain ⟨i, d, z, _, hd, _, _, _, _, _, hkd⟩ := mkTy_spec ht
    obtain ⟨i', d', z', _, hd', _, _, _, _, _, hkd'⟩ := mkTy_spec hs
    have hd2 : P.underlying T = some .string := by rw [hd, kind_str (hkd.symm.trans hk)]
    have h1 := (hops x (by simp [Op.operands])).2
    rw [hx] at h1
    have h1 := repA_sc h1
    refine ⟨.string (Utf8.encode n), ?_, trivial, rfl, rfl⟩
    unfold execOp
    simp only [ho, h1]
    simp only [Sem.run_bind]
    rw [run_convert_int_string w S T k n (by rw [hd']; rfl) hd2]
    simp [Sem.run_bind]
end
end Go.Proofs.YtfplkakfakdfhaaDoor


/-
  The pure layer: a pointer contract whose variable holds nil where the contract speaks of an empty row; two slices of one's own read as data at once. No condition.
-/
namespace Go.Proofs.YtfplkakfakdfhaaDoor
set_option linter.unusedSimpArgs false
set_option linter.unusedVariables false
open Go.RowKit

section
variable {P : Program} {dst : Option Nat} {ty : TypeId} {e : Operand → A} {β : Bx}
theorem does_frz2 {op : Op} (t u : Nat) {id n sz id2 n2 sz2 : Nat} {es es2 : List (List D)} {v : A} (hx : e (.tmp t) = .ow id n) (hro : rowsOf β id = some (sz, es)) (hx2 : setE e t (.d (.sl sz es)) (.tmp u) = .ow id2 n2) (hro2 : rowsOf ([(id, .frz sz es)] ++ β) id2 = some (sz2, es2))
    (h : Does P dst op ty (setE (setE e t (.d (.sl sz es))) u (.d (.sl sz2 es2))) ([(id2, .frz sz2 es2)] ++ ([(id, .frz sz es)] ++ β)) v [] []) : Does P dst op ty e β v [(id2, .frz sz2 es2), (id, .frz sz es)] [id, id2] :=
  does_frz t hx hro (does_frz u hx2 hro2 h)
end
section
variable {P : Program} {dst : Option Nat} {ty : TypeId} {e : Operand → A} {β : Bx}
/-- A whole variable, with pointers and slices of one's own in it. -/
theorem does_load_wholeA {T T0 : TypeId} {t : TyI} {x : Operand} {id : Nat} {cs : List A} (ht : mkTy P T = some t) (hr : t.row = true) (hx : e x = .px id 0) (hl : look id β = some (.var T0 cs)) (hlen : cs.length = t.size) : Does P dst (.load T x) ty e β (.ag cs) [] [id] :=
  does_load fun C γ hag ρ I w hm p hp hb => by
    rw [hx] at hp
    obtain ⟨g, hg, rfl⟩ := hp
    obtain ⟨g', us, h1, h2, h3, h4⟩ := var_cell hm ((hag id (by simp)).trans hl)
    rw [hg] at h1
    injection h1 with h1; injection h1 with h1; injection h1 with h1
    subst h1
    have hus := repAs_len h3
    refine ⟨_, _, rfl, run_loadVar_row' (cs := us.toList) ht hr (by omega) (fun j u hu => ?_), h4, us, rfl, h3⟩
    rw [cell_in h2]
    simpa using hu
end
theorem repAs_setA {ρ : Nat → Value} {I : Nat → Prop} {w : World} {v : A} (hone : v.one = true) : ∀ {cs : List A} {us : List Value} {k : Nat} {u : Value}, RepAs ρ I w true cs us → us[k]? = some u → RepA ρ I w v u → RepAs ρ I w true (cs.set k v) us
  | [], _, k, u, h, hk, _ => by cases h; cases hk
  | c :: cs, _, 0, u, ⟨x, xs, rfl, ho, h1, h2⟩, hk, hr => by
    have hk : some x = some u := hk
    injection hk with hk
    exact ⟨x, xs, rfl, fun _ => hone, hk ▸ hr, h2⟩
  | c :: cs, _, k + 1, u, ⟨x, xs, rfl, ho, h1, h2⟩, hk, hr => ⟨x, xs, rfl, ho, h1, repAs_setA hone h2 (by simpa using hk) hr⟩
theorem insB_setA {β : Bx} {v : A} (hv : v.inB β) : ∀ {cs : List A} {k : Nat}, A.insB β cs → A.insB β (cs.set k v)
  | [], _, h => h
  | c :: cs, 0, h => ⟨hv, h.2⟩
  | c :: cs, k + 1, h => ⟨h.1, insB_setA hv h.2⟩
theorem PX.nil {P : Program} {f : FuncId} {al : List A} {V R V2 R2 V' R' : Bx} {r : D} (i k rid : Nat) {T E : TypeId} {sz : Nat} {cs : List A} (h : PX P f al V2 R2 r V' R') (hi : look i (V ++ R) = some (.var T cs)) (hk : cs[k]? = some (.d .nl)) (hf : look rid (V ++ R) = none)
    (h2 : ∀ id, look id (V2 ++ R2) = look id ((i, .var T (cs.set k (.ow rid 0))) :: (rid, .row E sz []) :: (V ++ R))) (hV' : ∀ p ∈ V', p.1 ≠ rid) : PX P f al V R r V' R' := by
  refine ⟨h.enters, fun ρ I w vs hm hin hr => ?_⟩
  obtain ⟨m1, x1⟩ := hm.new_box hf (v := .slice none 0 0) (b := .row E sz []) (w' := w) (World.grownBy.refl w none) (fun g hg => by cases hg) (fun hx => ⟨[], by rw [upd_same]; exact World.ownsRow_nil w 0 E sz, rfl⟩) trivial
  have hir : i ≠ rid := by rintro rfl; rw [hi] at hf; cases hf
  have hi1 : look i ([(rid, Box.row E sz [])] ++ (V ++ R)) = some (.var T cs) := by
    rw [look_append, look_cons, if_neg (Ne.symm hir)]; exact hi
  have hst : ∀ {id : Nat} {b : Box}, look id ((i, .var T (cs.set k (.ow rid 0))) :: (rid, .row E sz []) :: (V ++ R)) = some b → ∃ b', look id ([(rid, Box.row E sz [])] ++ (V ++ R)) = some b' ∧ ∀ (w : World) (v : Value) (g : Nat), b.has w v g ↔ b'.has w v g := fun {id b} hb => by
    rw [look_cons] at hb
    split at hb
    · rename_i e
      injection hb with hb
      subst hb
      subst e
      exact ⟨_, hi1, fun _ _ _ => Iff.rfl⟩
    · exact ⟨b, hb, fun _ _ _ => Iff.rfl⟩
  have hdm : ∀ {id : Nat}, dom ([(rid, Box.row E sz [])] ++ (V ++ R)) id → dom ((i, .var T (cs.set k (.ow rid 0))) :: (rid, .row E sz []) :: (V ++ R)) id := fun {id} hd => by
    unfold dom at *
    rw [look_cons]
    split
    · exact Option.some_ne_none _
    · exact hd
  have m2 : Mem (ctxOf (V ++ R) ρ I w) ((i, .var T (cs.set k (.ow rid 0))) :: (rid, .row E sz []) :: (V ++ R)) (updF ρ rid (.slice none 0 0)) I w :=
    { os := m1.os, tape := m1.tape, output := m1.output, size := m1.size, frame := m1.frame, imm := m1.imm, new := m1.new, gl := m1.gl
      box := fun id b hb => by
        rw [look_cons] at hb
        split at hb
        · rename_i e
          injection hb with hb
          subst hb
          subst e
          obtain ⟨g, us, q1, q2, q3⟩ := m1.box i _ hi1
          obtain ⟨u, y1, y2, _⟩ := repAs_get q3 hk
          have y2 : u = .slice none 0 0 := y2
          subst y2
          exact ⟨g, us, q1, q2, repAs_setA rfl q3 y1 ⟨(upd_same _ _ _).symm, none, 0, rfl, Nat.le_refl _, fun h => absurd h (by simp)⟩⟩
        · exact m1.box id b hb
      own := fun id b g hb hg => by
        obtain ⟨b', q1, q2⟩ := hst hb
        exact m1.own id b' g q1 ((q2 _ _ _).1 hg)
      inj := fun a c b b' g ha hc hg hg' => by
        obtain ⟨b1, q1, q2⟩ := hst ha
        obtain ⟨b2, q3, q4⟩ := hst hc
        exact m1.inj a c b1 b2 g q1 q3 ((q2 _ _ _).1 hg) ((q4 _ _ _).1 hg')
      clo := fun id b hb => by
        rw [look_cons] at hb
        split at hb
        · rename_i e
          injection hb with hb
          subst hb
          subst e
          have hc := m1.clo i _ hi1
          refine insB_setA ?_ (A.insB_mono (fun j hj => hdm hj) cs hc)
          show dom _ rid
          unfold dom
          rw [look_cons, if_neg hir, look_cons, if_pos rfl]
          exact Option.some_ne_none _
        · exact Box.inB_mono (fun j hj => hdm hj) b (m1.clo id b hb) }
  have m3 := m2.congr h2
  have hPB : PBof (V2 ++ R2) (updF ρ rid (.slice none 0 0)) w = PBof (V ++ R) ρ w := by
    funext g
    refine propext ⟨fun ⟨id, b, q1, q3⟩ => ?_, fun ⟨id, b, q1, q3⟩ => ?_⟩
    · rw [h2] at q1
      obtain ⟨b', q4, q5⟩ := hst q1
      by_cases hid : id = rid
      · subst hid
        rw [upd_same] at q3
        rw [look_append, look_cons, if_pos rfl] at q4
        injection q4 with q4
        have q6 := (q5 _ _ _).1 q3
        subst q4
        cases q6
      · rw [upd_other _ _ _ hid] at q3
        rw [look_append, look_cons, if_neg (Ne.symm hid)] at q4
        exact ⟨id, b', q4, (q5 _ _ _).1 q3⟩
    · have hid : id ≠ rid := by rintro rfl; rw [q1] at hf; cases hf
      refine ⟨id, if id = i then .var T (cs.set k (.ow rid 0)) else b, ?_, ?_⟩
      · rw [h2, look_cons]
        by_cases hii : i = id
        · rw [if_pos hii, if_pos hii.symm]
        · rw [if_neg hii, if_neg (Ne.symm hii), look_cons, if_neg (Ne.symm hid)]; exact q1
      · by_cases hii : id = i
        · rw [if_pos hii, upd_other _ _ _ hid]
          subst hii
          rw [hi] at q1
          injection q1 with q1
          subst q1
          exact q3
        · rw [if_neg hii, upd_other _ _ _ hid]; exact q3
  have m4 : Mem (ctxOf (V2 ++ R2) (updF ρ rid (.slice none 0 0)) I w) (V2 ++ R2) (updF ρ rid (.slice none 0 0)) I w := m3.ctx rfl hPB rfl
  have hin2 : A.insB (V2 ++ R2) al := A.insB_mono (fun j hj => by
    have : dom ([(rid, Box.row E sz [])] ++ (V ++ R)) j := dom_append hj
    have := hdm this
    unfold dom at *
    rw [h2]; exact this) al hin
  refine (h.calls _ I w vs m4 hin2 (RepAs.ext x1 false al _ hin hr)).mono fun en w' ⟨v, ρ', I', he, hρ, hm', hr'⟩ => ⟨v, ρ', I', he, fun p hp => (hρ p hp).trans (upd_other _ _ _ (hV' p hp)), hm'.ctx rfl hPB.symm rfl, hr'⟩
end Go.Proofs.YtfplkakfakdfhaaDoor


/-
  The pure layer: contracts with a function among the arguments that has captured pointers to the caller's variables. No condition.
-/
namespace Go.Proofs.YtfplkakfakdfhaaDoor
set_option linter.unusedSimpArgs false
set_option linter.unusedVariables false
open Go.RowKit

/-- Arguments that stay where they are: pointers, and functions. -/
def isPxF : A → Bool
  | .px _ _ => true
  | .fn _ _ _ => true
  | _ => false
def pxIn (id : Nat) : A → Bool
  | .px i _ => i == id
  | .fn _ _ cs => cs.any fun c => match c with
    | .px i _ => i == id
    | _ => false
  | _ => false
def keptSF : Nat → List A → Sl
  | _, [] => []
  | i, a :: r => if isPxF a = true then (i, a) :: keptSF (i + 1) r else keptSF (i + 1) r
def keptKF (al : List A) (t : Nat) : Bool := match al[t]? with
  | some a => isPxF a
  | none => false
def hasPxF (id : Nat) (al : List A) : Bool := al.any fun a => isPxF a && pxIn id a
theorem hasPxF_get {id : Nat} {al : List A} (h : hasPxF id al = true) : ∃ (i : Nat) (a : A), al[i]? = some a ∧ isPxF a = true ∧ pxIn id a = true := by
  obtain ⟨a, h1, h2⟩ := List.any_eq_true.1 h
  simp only [Bool.and_eq_true] at h2
  obtain ⟨i, hi⟩ := List.getElem?_of_mem h1
  exact ⟨i, a, hi, h2.1, h2.2⟩
theorem keptSF_look : ∀ {al : List A} {k i : Nat} {a : A}, al[i]? = some a → isPxF a = true → look (k + i) (keptSF k al) = some a
  | b :: al, k, 0, a, h, hp => by
    have h : some b = some a := h
    injection h with h
    subst h
    unfold keptSF
    rw [if_pos hp]
    simp [look_cons]
  | b :: al, k, i + 1, a, h, hp => by
    have h : al[i]? = some a := by simpa using h
    have ih := keptSF_look (k := k + 1) h hp
    rw [show k + (i + 1) = k + 1 + i by omega]
    unfold keptSF
    split
    · rw [look_cons, if_neg (by omega)]; exact ih
    · exact ih
theorem pxIn_same {ρ ρ' : Nat → Value} {I I' : Nat → Prop} {w w' : World} {id : Nat} {a : A} {u : Value} (h : pxIn id a = true) (h1 : RepA ρ I w a u) (h2 : RepA ρ' I' w' a u) : ρ id = ρ' id := by
  cases a with
  | px i off =>
    have h : i = id := by simpa [pxIn] using h
    subst h
    obtain ⟨g, a1, a2⟩ := h1
    obtain ⟨g', b1, b2⟩ := h2
    rw [a2] at b2
    injection b2 with b2; injection b2 with b2; injection b2 with b2
    subst b2
    rw [a1, b1]
  | fn f fs cs =>
    simp only [pxIn] at h
    obtain ⟨c, hc, hcid⟩ := List.any_eq_true.1 h
    obtain ⟨us, vs, a1, _, a3⟩ := h1
    obtain ⟨us', vs', b1, _, b3⟩ := h2
    rw [a1] at b1
    injection b1 with _ _ b1
    subst b1
    obtain ⟨j, hj⟩ := List.getElem?_of_mem hc
    obtain ⟨u1, y1, y2, _⟩ := repAs_get a3 hj
    obtain ⟨u2, y3, y4, _⟩ := repAs_get b3 hj
    rw [y1] at y3
    injection y3 with y3
    subst y3
    cases c with
    | px i off =>
      have hcid : i = id := by simpa using hcid
      subst hcid
      obtain ⟨g, a1, a2⟩ := y2
      obtain ⟨g', b1, b2⟩ := y4
      rw [a2] at b2
      injection b2 with b2; injection b2 with b2; injection b2 with b2
      subst b2
      rw [a1, b1]
    | _ => cases hcid
  | _ => cases h
def RetXF (P : Program) (rs : List ResultVar) (r : D) (al : List A) (V' R' : Bx) (s : St) : Prop := ∃ vs ds l, resVs P s rs vs ∧ frzVs s.β vs = some ds ∧ SubD (resD ds) r ∧ Forget l ⟨s.σ, frzVsU s.β vs ++ s.β⟩ ⟨keptSF 0 al, V' ++ R'⟩
def retXF (P : Program) (rs : List ResultVar) (r : D) (al : List A) (V' R' : Bx) : Exit → St → Prop
  | .normal, s => RetXF P rs r al V' R' s
  | .ret, s => RetXF P rs r al V' R' s
  | _, _ => False
section
variable {P : Program}
theorem pxf_of_aw {f : FuncId} {fn : Func} {c : Code} {al : List A} {V R V' R' : Bx} {r : D} {rs : List ResultVar} (hf : P.funcs[f]? = some fn) (hb : fn.body = some c) (hn : (fn.name == "runtime.NumGoroutine") = false) (hmx : P.follows .mixedOrders = true) (hok : codeOk (keptKF al) fn.ntmps c = true) (hds : al.length ≤ fn.ntmps)
    (hrs : fn.results = rs.toArray) (hV : V'.all (fun p => hasPxF p.1 al) = true) (h : AW P c (retXF P rs r al V' R') ⟨argA 0 al, V ++ R⟩) : PX P f al V R r V' R' := by
  refine ⟨enters_of hf hb hn, fun ρ I w vs hm hin hr => ?_⟩
  refine calls_of_wp hf hb ?_
  have hvl := repAs_len hr
  rw [Array.length_toList] at hvl
  have hget : ∀ {i : Nat} {v : A}, al[i]? = some v → ∃ u, vs[i]? = some u ∧ RepA ρ I w v u ∧ (vs ++ Array.replicate (fn.ntmps - vs.size) undef).getD i undef = u ∧ i < vs.size := fun {i v} hi => by
    obtain ⟨u, h3, h4, _⟩ := repAs_get hr hi
    have hlt : i < vs.size := by rw [← Array.length_toList]; exact (List.getElem?_eq_some_iff.1 h3).1
    have h5 : vs[i]? = some u := by simpa using h3
    refine ⟨u, h5, h4, ?_, hlt⟩
    rw [Array.getD_eq_getD_getElem?, Array.getElem?_append_left hlt, h5]; rfl
  let C : Ctx := { w0 := w, PB := PBof (V ++ R) ρ w, I0 := I, N := fn.ntmps, K := keptKF al, args := fun t => (vs ++ Array.replicate (fn.ntmps - vs.size) undef).getD t undef }
  have hm' : Mem C (V ++ R) ρ I w := hm.ctx rfl rfl rfl
  have hat : At C ⟨argA 0 al, V ++ R⟩ { tmps := vs ++ Array.replicate (fn.ntmps - vs.size) undef, defers := [] } w := by
    refine ⟨ρ, I, hm', rfl, ?_, fun t _ => rfl, fun t v ht => ?_⟩
    · show (vs ++ Array.replicate (fn.ntmps - vs.size) undef).size = fn.ntmps
      simp; omega
    · obtain ⟨i, h1, h2⟩ := argA_look ht
      rw [Nat.zero_add] at h1
      subst h1
      obtain ⟨u, h3, h4, h5, h6⟩ := hget h2
      refine ⟨by show t < fn.ntmps; omega, A.insB_mem hin v (List.mem_of_getElem? h2), ?_⟩
      show RepA ρ I w v ((vs ++ Array.replicate (fn.ntmps - vs.size) undef).getD t undef)
      rw [h5]; exact h4
  have hfin : ∀ s a' w', RetXF P rs r al V' R' s → At C s a' w' → a'.defers = [] ∧ ∃ v, (results fn a'.tmps).run P w' = .ok v w' ∧
      (∃ v' ρ' I', Ending.returned v = .returned v' ∧ (∀ p ∈ V', ρ' p.1 = ρ p.1) ∧ Mem (ctxOf (V ++ R) ρ I w) (V' ++ R') ρ' I' w' ∧ RepD I' w' r v') := by
    rintro s a' w' ⟨vs', ds', l, h1, h2, hsub, hfg⟩ ⟨ρ2, J, hm2, hfr⟩
    obtain ⟨us, k1, k2, k3⟩ := resVs_run hm2 hfr h1
    obtain ⟨J', m1, x1, r1, _⟩ := freeze_vals _ _ ds' s.β J hm2 k2 k3 h2
    have hul := repC_len r1
    have hfr1 : Fr C s.σ (frzVsU s.β vs' ++ s.β) ρ2 J' w' a' := ⟨hfr.defers, hfr.size, hfr.keep, fun t v ht => by
      obtain ⟨q1, q2, q3⟩ := hfr.val t v ht
      exact ⟨q1, A.inB_mono (fun i hi => dom_append hi) v q2, RepA.ext x1 v _ q2 q3⟩⟩
    have m2 := hfg.mem m1
    have f2 := hfg.fr hfr1
    refine ⟨hfr.defers, (if h : us.toArray.size = 1 then us.toArray[0] else .tuple us.toArray), ?_, _, _, J', rfl, fun p hp => ?_, m2.ctx rfl rfl rfl, ?_⟩
    · have hrm : ∀ fn' : Func, fn'.results = rs.toArray → results fn' a'.tmps = (do
          let vs ← rs.toArray.mapM (resRun a'.tmps)
          pure (if h : vs.size = 1 then vs[0] else .tuple vs)) := fun fn' h' => by
        unfold results
        rw [h']
        congr 1
      rw [hrm fn hrs, List.mapM_toArray]
      simp only [map_eq_pure_bind, bind_assoc, pure_bind, Sem.run_bind, k1, Result.andThen_ok, Sem.run_pure]
    · obtain ⟨i, a0, hi, hk0, hid⟩ := hasPxF_get (List.all_eq_true.1 hV p hp)
      obtain ⟨_, _, q2⟩ := f2.val i a0 (by have := keptSF_look (k := 0) hi hk0; rwa [Nat.zero_add] at this)
      obtain ⟨u, _, z2, z3, _⟩ := hget hi
      have hk := hfr.keep i (by show keptKF al i = true; unfold keptKF; rw [hi]; exact hk0)
      have hk : a'.tmps.getD i undef = u := by rw [hk]; exact z3
      rw [hk] at q2
      exact (pxIn_same hid z2 q2).symm
    · refine hsub _ _ _ ?_
      cases ds' with
      | nil =>
        cases r1
        refine ⟨#[], by rfl, rfl⟩
      | cons d ds1 =>
        obtain ⟨u, us1, rfl, _, hd, hrest⟩ := r1
        cases ds1 with
        | nil =>
          cases hrest
          exact hd
        | cons d2 ds2 =>
          have hl2 := repC_len hrest
          rw [dif_neg (by simp [hl2])]
          refine ⟨_, rfl, ?_⟩
          have : RepC J' w' false (d :: d2 :: ds2) (u :: us1) := ⟨u, us1, rfl, fun h => by (cases h), hd, hrest⟩
          simpa using this
  refine wp_mono (aw_sound hmx c _ _ _ w (C := C) hok h hat) fun en a' w' hq => ?_
  obtain ⟨s, hq, ha⟩ := hq
  cases en with
  | normal => exact hfin s a' w' hq ha
  | ret => exact hfin s a' w' hq ha
  | _ => exact hq.elim
end
section
variable {P : Program} {rs : List ResultVar} {r : D} {al : List A} {V' R' : Bx} {s : St}
theorem xf_norm (h : RetXF P rs r al V' R' s) : retXF P rs r al V' R' .normal s := h
theorem xf_ret (h : RetXF P rs r al V' R' s) : retXF P rs r al V' R' .ret s := h
theorem retxf_ok {vs : List A} {ds : List D} {l : List (Nat × Nat)} (h1 : resVs P s rs vs) (h2 : frzVs s.β vs = some ds) (h3 : SubD (resD ds) r) (h4 : Forget l ⟨s.σ, frzVsU s.β vs ++ s.β⟩ ⟨keptSF 0 al, V' ++ R'⟩) : RetXF P rs r al V' R' s := ⟨vs, ds, l, h1, h2, h3, h4⟩
end
end Go.Proofs.YtfplkakfakdfhaaDoor


/-
  The pure layer: contracts whose result may name boxes: pointers to variables, old ones or new. No condition.
-/
namespace Go.Proofs.YtfplkakfakdfhaaDoor
set_option linter.unusedSimpArgs false
set_option linter.unusedVariables false
open Go.RowKit

structure PG (P : Program) (f : FuncId) (al : List A) (V R : Bx) (r : A) (V' R' : Bx) : Prop where
  enters : Enters P f
  calls : ∀ (ρ : Nat → Value) (I : Nat → Prop) (w : World) (vs : Array Value), Mem (ctxOf (V ++ R) ρ I w) (V ++ R) ρ I w → A.insB (V ++ R) al → RepAs ρ I w false al vs.toList →
    Calls P f vs w fun e w' => ∃ v ρ' I', e = .returned v ∧ (∀ p ∈ V', ρ' p.1 = ρ p.1) ∧ Mem (ctxOf (V ++ R) ρ I w) (V' ++ R') ρ' I' w' ∧ RepA ρ' I' w' r v
def resA1 : List A → A
  | [v] => v
  | vs => .tu vs
def RetG (P : Program) (rs : List ResultVar) (r : A) (al : List A) (V' R' : Bx) (s : St) : Prop := ∃ vs l, resVs P s rs vs ∧ SubA (resA1 (vs.map (frzX s.β))) (r.ren (renOf l)) ∧ Forget l ⟨s.σ, frzXsU s.β vs ++ s.β⟩ ⟨keptSF 0 al, V' ++ R'⟩
def retG (P : Program) (rs : List ResultVar) (r : A) (al : List A) (V' R' : Bx) : Exit → St → Prop
  | .normal, s => RetG P rs r al V' R' s
  | .ret, s => RetG P rs r al V' R' s
  | _, _ => False
theorem repA_res {ρ : Nat → Value} {I : Nat → Prop} {w : World} : ∀ {l : List A} {us : List Value}, RepAs ρ I w false l us → RepA ρ I w (resA1 l) (if h : us.toArray.size = 1 then us.toArray[0] else .tuple us.toArray)
  | [], us, h => by
    cases h
    exact ⟨#[], rfl, rfl⟩
  | [a], us, ⟨u, us', h1, _, h3, h4⟩ => by
    cases h4
    subst h1
    exact h3
  | a :: b :: l, us, h => by
    obtain ⟨u, us', h1, h2, h3, u2, us2, h4, h5⟩ := h
    subst h1 h4
    rw [dif_neg (by simp)]
    exact ⟨_, rfl, u, _, rfl, h2, h3, u2, us2, rfl, h5⟩
section
variable {P : Program}
theorem pg_of_aw {f : FuncId} {fn : Func} {c : Code} {al : List A} {V R V' R' : Bx} {r : A} {rs : List ResultVar} (hf : P.funcs[f]? = some fn) (hb : fn.body = some c) (hn : (fn.name == "runtime.NumGoroutine") = false) (hmx : P.follows .mixedOrders = true) (hok : codeOk (keptKF al) fn.ntmps c = true) (hds : al.length ≤ fn.ntmps)
    (hrs : fn.results = rs.toArray) (hV : V'.all (fun p => hasPxF p.1 al) = true) (h : AW P c (retG P rs r al V' R') ⟨argA 0 al, V ++ R⟩) : PG P f al V R r V' R' := by
  refine ⟨enters_of hf hb hn, fun ρ I w vs hm hin hr => ?_⟩
  refine calls_of_wp hf hb ?_
  have hvl := repAs_len hr
  rw [Array.length_toList] at hvl
  have hget : ∀ {i : Nat} {v : A}, al[i]? = some v → ∃ u, vs[i]? = some u ∧ RepA ρ I w v u ∧ (vs ++ Array.replicate (fn.ntmps - vs.size) undef).getD i undef = u ∧ i < vs.size := fun {i v} hi => by
    obtain ⟨u, h3, h4, _⟩ := repAs_get hr hi
    have hlt : i < vs.size := by rw [← Array.length_toList]; exact (List.getElem?_eq_some_iff.1 h3).1
    have h5 : vs[i]? = some u := by simpa using h3
    refine ⟨u, h5, h4, ?_, hlt⟩
    rw [Array.getD_eq_getD_getElem?, Array.getElem?_append_left hlt, h5]; rfl
  let C : Ctx := { w0 := w, PB := PBof (V ++ R) ρ w, I0 := I, N := fn.ntmps, K := keptKF al, args := fun t => (vs ++ Array.replicate (fn.ntmps - vs.size) undef).getD t undef }
  have hm' : Mem C (V ++ R) ρ I w := hm.ctx rfl rfl rfl
  have hat : At C ⟨argA 0 al, V ++ R⟩ { tmps := vs ++ Array.replicate (fn.ntmps - vs.size) undef, defers := [] } w := by
    refine ⟨ρ, I, hm', rfl, ?_, fun t _ => rfl, fun t v ht => ?_⟩
    · show (vs ++ Array.replicate (fn.ntmps - vs.size) undef).size = fn.ntmps
      simp; omega
    · obtain ⟨i, h1, h2⟩ := argA_look ht
      rw [Nat.zero_add] at h1
      subst h1
      obtain ⟨u, h3, h4, h5, h6⟩ := hget h2
      refine ⟨by show t < fn.ntmps; omega, A.insB_mem hin v (List.mem_of_getElem? h2), ?_⟩
      show RepA ρ I w v ((vs ++ Array.replicate (fn.ntmps - vs.size) undef).getD t undef)
      rw [h5]; exact h4
  have hfin : ∀ s a' w', RetG P rs r al V' R' s → At C s a' w' → a'.defers = [] ∧ ∃ v, (results fn a'.tmps).run P w' = .ok v w' ∧
      (∃ v' ρ' I', Ending.returned v = .returned v' ∧ (∀ p ∈ V', ρ' p.1 = ρ p.1) ∧ Mem (ctxOf (V ++ R) ρ I w) (V' ++ R') ρ' I' w' ∧ RepA ρ' I' w' r v') := by
    rintro s a' w' ⟨vs', l, h1, hsub, hfg⟩ ⟨ρ2, J, hm2, hfr⟩
    obtain ⟨us, k1, k2, k3⟩ := resVs_run hm2 hfr h1
    obtain ⟨J', m1, x1, q0, r1, _⟩ := freeze_valsX _ _ s.β J hm2 k2 k3
    have hul := repAs_len r1
    have hfr1 : Fr C s.σ (frzXsU s.β vs' ++ s.β) ρ2 J' w' a' := ⟨hfr.defers, hfr.size, hfr.keep, fun t v ht => by
      obtain ⟨q1, q2, q3⟩ := hfr.val t v ht
      exact ⟨q1, A.inB_mono (fun i hi => dom_append hi) v q2, RepA.ext x1 v _ q2 q3⟩⟩
    have m2 := hfg.mem m1
    have f2 := hfg.fr hfr1
    refine ⟨hfr.defers, (if h : us.toArray.size = 1 then us.toArray[0] else .tuple us.toArray), ?_, _, _, J', rfl, fun p hp => ?_, m2.ctx rfl rfl rfl, ?_⟩
    · have hrm : ∀ fn' : Func, fn'.results = rs.toArray → results fn' a'.tmps = (do
          let vs ← rs.toArray.mapM (resRun a'.tmps)
          pure (if h : vs.size = 1 then vs[0] else .tuple vs)) := fun fn' h' => by
        unfold results
        rw [h']
        congr 1
      rw [hrm fn hrs, List.mapM_toArray]
      simp only [map_eq_pure_bind, bind_assoc, pure_bind, Sem.run_bind, k1, Result.andThen_ok, Sem.run_pure]
    · obtain ⟨i, a0, hi, hk0, hid⟩ := hasPxF_get (List.all_eq_true.1 hV p hp)
      obtain ⟨_, _, q2⟩ := f2.val i a0 (by have := keptSF_look (k := 0) hi hk0; rwa [Nat.zero_add] at this)
      obtain ⟨u, _, z2, z3, _⟩ := hget hi
      have hk := hfr.keep i (by show keptKF al i = true; unfold keptKF; rw [hi]; exact hk0)
      have hk : a'.tmps.getD i undef = u := by rw [hk]; exact z3
      rw [hk] at q2
      exact (pxIn_same hid z2 q2).symm
    · exact RepA.ren _ r _ (hsub _ _ _ _ (repA_res r1))
  refine wp_mono (aw_sound hmx c _ _ _ w (C := C) hok h hat) fun en a' w' hq => ?_
  obtain ⟨s, hq, ha⟩ := hq
  cases en with
  | normal => exact hfin s a' w' hq ha
  | ret => exact hfin s a' w' hq ha
  | _ => exact hq.elim
end
section
variable {P : Program} {dst : Option Nat} {ty : TypeId} {e : Operand → A} {β : Bx}
theorem does_callG {x : Operand} {args : Array Operand} {ts : Array TypeId} {f : FuncId} {first captured : List A} {al : List A} {V R V' R' : Bx} {r : A} (ren ren' : List (Nat × Nat)) {ups : Bx} {rd : List Nat}
    (hx : e x = .fn (.func f) first captured) (hpc : PG P f al V R r V' R') (has : (first ++ args.toList.map e ++ captured).map (frzX β) = A.rens (renOf ren) al)
    (hb : keepB (renOf ren) (frzXsU β (first ++ args.toList.map e ++ captured) ++ β) (V ++ R)) (ho : onceB (renOf ren) (V ++ R) = true) (hin : inBb (V ++ R) (V ++ R)) (hia : A.insB (V ++ R) al)
    (hkeys : V'.map (·.1) = V.map (·.1)) (hvv : V'.all (fun p => renOf ren' p.1 == renOf ren p.1) = true) (hlv : V.all (fun p => p.2.opn) = true)
    (ho' : onceB (renOf ren') (V' ++ R') = true) (hfresh : R'.all (fun p => (look (renOf ren' p.1) (frzXsU β (first ++ args.toList.map e ++ captured) ++ β)).isNone) = true) (hin' : inBb (V' ++ R') (V' ++ R')) (hir : r.inB (V' ++ R'))
    (hups : ups = renB (renOf ren') (V' ++ R') ++ deadB (renOf ren) R ++ frzXsU β (first ++ args.toList.map e ++ captured)) (hrd : rd = (V ++ R).map (fun p => renOf ren p.1) ++ (first ++ args.toList.map e ++ captured).flatMap idsV) :
    Does P dst (.call { callee := .value x, args := args, argTypes := ts }) ty e β (r.ren (renOf ren')) ups rd := by
  subst hups hrd
  generalize hL : first ++ args.toList.map e ++ captured = L at *
  intro C γ hag ρ I w hm a hops o hop hd hty K Q hK
  obtain ⟨fi, ca, h1, h2, h3⟩ := call_args hx hops
  rw [hL] at h2 h3
  obtain ⟨e1, e2⟩ := frzX_agree (fun id hid => hag id (List.mem_append_left _ (List.mem_append_right _ hid)))
  obtain ⟨I1, m1, x1, b1, r1, _⟩ := freeze_valsX _ _ γ I hm h2 h3
  rw [e1, has] at r1
  rw [e2] at m1
  generalize hU : frzXsU β L = U at *
  have hagU : ∀ id, look id γ = look id β → look id (U ++ γ) = look id (U ++ β) := fun id h => by rw [look_append, look_append, h]
  have hkb : ∀ {i : Nat} {b : Box}, look i (V ++ R) = some b → look (renOf ren i) (U ++ γ) = some (b.ren (renOf ren)) := fun {i b} hi => by
    rw [hagU _ (hag _ (List.mem_append_left _ (List.mem_append_left _ (List.mem_map.2 ⟨(i, b), look_mem hi, rfl⟩))))]
    exact keepB_look hb hi
  have hfr : ∀ p ∈ R', look (renOf ren' p.1) (U ++ γ) = none := fun p hp => by
    have h0 := List.all_eq_true.1 hfresh p hp
    have h0 : look (renOf ren' p.1) (U ++ β) = none := by simpa using h0
    have hmem : renOf ren' p.1 ∈ (renB (renOf ren') (V' ++ R') ++ deadB (renOf ren) R ++ U).map (·.1) := by
      rw [List.map_append, List.map_append]
      refine List.mem_append_left _ (List.mem_append_left _ ?_)
      exact List.mem_map.2 ⟨(renOf ren' p.1, p.2.ren (renOf ren')), List.mem_map.2 ⟨p, List.mem_append_right _ hp, rfl⟩, rfl⟩
    rw [hagU _ (hag _ (List.mem_append_right _ hmem))]
    exact h0
  have hmc : Mem (ctxOf (V ++ R) (fun i => ρ (renOf ren i)) I1 w) (V ++ R) (fun i => ρ (renOf ren i)) I1 w :=
    { os := rfl, tape := rfl, output := rfl, size := Nat.le_refl _, frame := fun _ _ _ => rfl, imm := m1.imm, new := fun g hg => .inl hg,
      box := fun i b hi => BoxRep.ren (m1.box _ _ (hkb hi)),
      own := fun i b g hi hg => by
        obtain ⟨q1, q2, _⟩ := m1.own _ _ g (hkb hi) (has_ren _ _ hg)
        exact ⟨q1, q2, .inr ⟨i, b, hi, hg⟩⟩,
      inj := fun i j b b' g hi hj hg hg' => onceB_inj ho (look_mem hi) (look_mem hj) (m1.inj _ _ _ _ g (hkb hi) (hkb hj) (has_ren _ _ hg) (has_ren _ _ hg')),
      clo := fun i b hi => inBb_look hin hi,
      gl := m1.gl }
  unfold Oper.wp
  rw [run_call hpc.enters rfl h1 o hop, Oper.upon_enter]
  have hre : RepAs (fun i => ρ (renOf ren i)) I1 w false al (fi ++ args.map a.eval ++ ca).toList := RepAs.ren (renOf ren) false al _ r1
  refine (hpc.calls _ I1 w _ hmc hia hre).mono fun en w' ⟨v, ρ', I', he, hρ, hm', hr'⟩ => ?_
  subst he
  let fresh : Nat → Prop := fun i => ∃ p ∈ R', renOf ren' p.1 = i
  have hdec : ∀ i, fresh i ∨ ¬ fresh i := fun i => Classical.em _
  -- where each box lies behind the call
  obtain ⟨ρ2, hρ2, hρ3⟩ : ∃ ρ2 : Nat → Value, (∀ p ∈ R', ρ2 (renOf ren' p.1) = ρ' p.1) ∧ ∀ i, ¬ fresh i → ρ2 i = ρ i := by
    classical
    refine ⟨fun i => if h : fresh i then ρ' h.choose.1 else ρ i, fun p hp => ?_, fun i hi => dif_neg hi⟩
    have hf : fresh (renOf ren' p.1) := ⟨p, hp, rfl⟩
    simp only [dif_pos hf]
    obtain ⟨hq1, hq2⟩ := hf.choose_spec
    exact congrArg ρ' (onceB_inj ho' (b := hf.choose.2) (b' := p.2) (List.mem_append_right _ hq1) (List.mem_append_right _ hp) hq2)
  have hvk : ∀ {i : Nat} {b : Box}, look i (V' ++ R') = some b → (i, b) ∈ V' ∨ (i, b) ∈ R' := fun {i b} h => List.mem_append.1 (look_mem h)
  have hvar : ∀ {i : Nat} {b : Box}, (i, b) ∈ V' → renOf ren' i = renOf ren i ∧ ∃ b0, look i (V ++ R) = some b0 ∧ b0.opn = true := fun {i b} h => by
    refine ⟨by simpa using List.all_eq_true.1 hvv _ h, ?_⟩
    have hm0 : i ∈ V.map (·.1) := by rw [← hkeys]; exact List.mem_map.2 ⟨_, h, rfl⟩
    obtain ⟨b0, hb0⟩ := look_some_of hm0
    refine ⟨b0, by rw [look_append, hb0]; rfl, List.all_eq_true.1 hlv _ (look_mem hb0)⟩
  have hnf : ∀ {i : Nat} {b : Box}, (i, b) ∈ V' → ¬ fresh (renOf ren i) := fun {i b} h hf => by
    obtain ⟨p, hp, hpe⟩ := hf
    obtain ⟨_, b0, hb0, _⟩ := hvar h
    have := hfr p hp
    rw [hpe, hkb hb0] at this
    cases this
  have hval : ∀ {i : Nat} {b : Box}, look i (V' ++ R') = some b → ρ2 (renOf ren' i) = ρ' i := fun {i b} h => by
    rcases hvk h with h | h
    · obtain ⟨q1, _⟩ := hvar h
      rw [q1, hρ3 _ (hnf h)]
      exact (hρ (i, b) h).symm
    · exact hρ2 (i, b) h
  let I2 : Nat → Prop := fun g => I1 g ∨ I' g
  have hPB : ∀ g, PBof (V ++ R) (fun i => ρ (renOf ren i)) w g → ∃ id b, look id (U ++ γ) = some b ∧ b.has w (ρ id) g ∧ g < w.heap.size ∧ ¬ I1 g ∧ (C.w0.heap.size ≤ g ∨ C.PB g) ∧ ∃ i b0, look i (V ++ R) = some b0 ∧ renOf ren i = id := fun g ⟨i, b, hi, hg⟩ => by
    obtain ⟨q1, q2, q3⟩ := m1.own _ _ g (hkb hi) (has_ren _ _ hg)
    exact ⟨_, _, hkb hi, has_ren _ _ hg, q1, q2, q3, i, b, hi, rfl⟩
  have hupsL : ∀ {i : Nat}, (∃ b, look i (V ++ R) = some b) → look (renOf ren i) (renB (renOf ren') (V' ++ R') ++ deadB (renOf ren) R) ≠ none := fun {i} ⟨b, hb⟩ => by
    rw [look_append] at hb
    rw [look_append]
    cases hv : look i V with
    | some b1 =>
      have hm0 : i ∈ V'.map (·.1) := by rw [hkeys]; exact List.mem_map.2 ⟨_, look_mem hv, rfl⟩
      obtain ⟨b2, hb2⟩ := look_some_of hm0
      obtain ⟨q1, _⟩ := hvar (look_mem hb2)
      obtain ⟨b3, hb3⟩ := look_renB_of (π := renOf ren') (β := V' ++ R') (i := i) (b := b2) (by rw [look_append, hb2]; rfl)
      rw [← q1, hb3]; simp
    | none =>
      rw [hv] at hb
      have hb : look i R = some b := by simpa using hb
      obtain ⟨b2, hb2⟩ := look_some_of (l := deadB (renOf ren) R) (t := renOf ren i) (List.mem_map.2 ⟨(renOf ren i, .dead), List.mem_map.2 ⟨(i, b), look_mem hb, rfl⟩, rfl⟩)
      rw [hb2]
      cases look (renOf ren i) (renB (renOf ren') (V' ++ R')) <;> simp
  have hx2 : Ext (U ++ γ) ρ I1 w ρ2 I2 w' := ⟨⟨fun g h => .inl h, fun g h => by
    refine hm'.frame g (m1.imm g h) fun hp => ?_
    obtain ⟨_, _, _, _, _, q, _⟩ := hPB g hp
    exact q h⟩, fun i hi => hρ3 i fun ⟨p, hp, hpe⟩ => hi (by rw [← hpe]; exact hfr p hp)⟩
  have hmono : ExtI I' w' I2 w' := ⟨fun g h => .inr h, fun _ _ => rfl⟩
  have hold0 : ∀ id b g, look id (U ++ γ) = some b → look id (renB (renOf ren') (V' ++ R') ++ deadB (renOf ren) R) = none → b.has w (ρ id) g → ¬ PBof (V ++ R) (fun i => ρ (renOf ren i)) w g := fun id b g h1 h2 h4 hp => by
    obtain ⟨id2, b2, q1, q2, _, _, _, i, b0, q4, q5⟩ := hPB g hp
    have := m1.inj id id2 b b2 g h1 q1 h4 q2
    rw [this, ← q5] at h2
    exact hupsL ⟨b0, q4⟩ h2
  have hlive : ∀ {i : Nat} {b : Box}, look i (V' ++ R') = some b → ∀ g, b.has w' (ρ2 (renOf ren' i)) g → g < w'.heap.size ∧ ¬ I2 g ∧ (C.w0.heap.size ≤ g ∨ C.PB g) ∧ (w.heap.size ≤ g ∨ PBof (V ++ R) (fun i => ρ (renOf ren i)) w g) := fun {i b} h g hg => by
    rw [hval h] at hg
    obtain ⟨q1, q2, q3⟩ := hm'.own i b g h hg
    refine ⟨q1, fun h0 => ?_, ?_, q3⟩
    · rcases h0 with h0 | h0
      · rcases q3 with q3 | q3
        · exact absurd (m1.imm g h0) (by have : w.heap.size ≤ g := q3; omega)
        · obtain ⟨_, _, _, _, _, q, _⟩ := hPB g q3
          exact q h0
      · exact q2 h0
    · rcases q3 with q3 | q3
      · exact .inl (Nat.le_trans m1.size q3)
      · obtain ⟨_, _, _, _, _, _, q, _⟩ := hPB g q3
        exact q
  have hmem := m1.upd (renB (renOf ren') (V' ++ R') ++ deadB (renOf ren) R) hx2 hm'.os hm'.tape hm'.output hm'.size
    (fun g h => by
      rcases h with h | h
      · exact Nat.lt_of_lt_of_le (m1.imm g h) hm'.size
      · exact hm'.imm g h)
    (fun g h => by
      rcases h with h | h
      · exact .inl h
      · rcases hm'.new g h with h | h | h
        · exact .inl h
        · exact .inr (.inl (Nat.le_trans m1.size h))
        · obtain ⟨_, _, _, _, _, _, q, _⟩ := hPB g h
          exact .inr q)
    (PBof (V ++ R) (fun i => ρ (renOf ren i)) w) (fun k hk hp => hm'.frame k hk hp) (fun k hk => by
      obtain ⟨_, _, _, _, _, _, q, _⟩ := hPB k hk
      exact q)
    (fun id b g h1 h2 h4 => by
      refine ⟨hold0 id b g h1 h2 h4, fun h => ?_⟩
      obtain ⟨q1, q2, _⟩ := m1.own id b g h1 h4
      rcases h with h | h
      · exact q2 h
      · rcases hm'.new g h with h | h | h
        · exact q2 h
        · exact absurd q1 (by have : w.heap.size ≤ g := h; omega)
        · exact hold0 id b g h1 h2 h4 h)
    (fun id b h => by
      rw [look_append] at h
      cases hv : look id (renB (renOf ren') (V' ++ R')) with
      | none =>
        rw [hv] at h
        obtain ⟨rfl, _⟩ := look_deadB (h : look id (deadB (renOf ren) R) = some b)
        exact ⟨trivial, trivial, fun g h => by cases h⟩
      | some b1 =>
        rw [hv] at h
        have h : b1 = b := by simpa using h
        subst h
        obtain ⟨i, b0, q1, q2, rfl, rfl⟩ := look_renB ho' hv
        refine ⟨?_, ?_, fun g hg => ?_⟩
        · have hb1 := hm'.box i b0 q1
          have hb2 : BoxRep (fun i => ρ2 (renOf ren' i)) I2 w' i b0 := by
            have hcl := hm'.clo i b0 q1
            cases b0 with
            | var T cs =>
              obtain ⟨g, us, z1, z2, z3⟩ := hb1
              refine ⟨g, us, (hval q1).trans z1, z2, RepAs.ext (β := V' ++ R') ⟨hmono, fun j hj => ?_⟩ true cs _ hcl z3⟩
              obtain ⟨bj, hbj⟩ := Option.ne_none_iff_exists'.1 hj
              exact hval hbj
            | row E sz es =>
              obtain ⟨xs, z1, z2⟩ := hb1
              have e0 := hval q1
              refine ⟨xs, ?_, RepR.ext hmono sz es xs z2⟩
              show w'.ownsRow 0 E sz (ρ2 (renOf ren' i)) es.length xs
              rw [e0]; exact z1
            | frz sz es =>
              show RepD I2 w' (.sl sz es) (ρ2 (renOf ren' i))
              rw [hval q1]; exact RepD.ext hmono _ _ hb1
            | itr s pos =>
              obtain ⟨g, z1, z2⟩ := hb1
              exact ⟨g, (hval q1).trans z1, z2⟩
            | res X =>
              obtain ⟨fs, z1⟩ := hb1
              exact ⟨fs, by show X.rep w' (ρ2 (renOf ren' i)) fs; rw [hval q1]; exact z1⟩
            | rel j X =>
              obtain ⟨bj, hbj⟩ := Option.ne_none_iff_exists'.1 hcl
              obtain ⟨fs, z1⟩ := hb1
              exact ⟨fs, by show X.rep w' (ρ2 (renOf ren' j)) (ρ2 (renOf ren' i)) fs; rw [hval q1, hval hbj]; exact z1⟩
            | dead => trivial
          exact BoxRep.unren hb2
        · have hd : ∀ j, dom (V' ++ R') j → dom ((renB (renOf ren') (V' ++ R') ++ deadB (renOf ren) R) ++ (U ++ γ)) (renOf ren' j) := fun j hj => by
            obtain ⟨bj, hbj⟩ := Option.ne_none_iff_exists'.1 hj
            obtain ⟨b3, hb3⟩ := look_renB_of (π := renOf ren') hbj
            unfold dom
            rw [look_append, look_append, hb3]; simp
          have hcl := hm'.clo i b0 q1
          cases b0 with
          | var T cs => exact A.insB_ren hd cs hcl
          | rel j X => exact hd j hcl
          | _ => trivial
        · obtain ⟨z1, z2, z3, z4⟩ := hlive q1 g (has_unren hg)
          refine ⟨z1, z2, z3, fun id2 b2 y1 y2 y4 => ?_⟩
          rcases z4 with z4 | z4
          · exact absurd (m1.own id2 b2 g y1 y4).1 (by omega)
          · exact hold0 id2 b2 g y1 y2 y4 z4)
    (fun i j b b' g h h' hg hg' => by
      have hsplit : ∀ {id : Nat} {b : Box}, look id (renB (renOf ren') (V' ++ R') ++ deadB (renOf ren) R) = some b → b ≠ .dead → look id (renB (renOf ren') (V' ++ R')) = some b := fun {id b} h hl => by
        rw [look_append] at h
        cases hv : look id (renB (renOf ren') (V' ++ R')) with
        | none =>
          rw [hv] at h
          obtain ⟨rfl, _⟩ := look_deadB (h : look id (deadB (renOf ren) R) = some b)
          exact absurd rfl hl
        | some b1 => rw [hv] at h; simpa using h
      obtain ⟨i0, b0, q1, _, rfl, rfl⟩ := look_renB ho' (hsplit h (not_dead hg))
      obtain ⟨j0, b0', q2, _, rfl, rfl⟩ := look_renB ho' (hsplit h' (not_dead hg'))
      rw [hval q1] at hg
      rw [hval q2] at hg'
      rw [hm'.inj i0 j0 b0 b0' g q1 q2 (has_unren hg) (has_unren hg')])
  rw [hd]
  rw [← List.append_assoc] at hmem
  have hdr : ∀ j, dom (V' ++ R') j → dom (renB (renOf ren') (V' ++ R') ++ deadB (renOf ren) R ++ U ++ γ) (renOf ren' j) := fun j hj => by
    obtain ⟨bj, hbj⟩ := Option.ne_none_iff_exists'.1 hj
    obtain ⟨b3, hb3⟩ := look_renB_of (π := renOf ren') hbj
    unfold dom
    rw [look_append, look_append, look_append, hb3]; simp
  refine hK v ρ2 I2 w' hmem (x1.trans hx2 (fun i hi => dom_append hi)) (A.inB_ren hdr r hir) (RepA.unren _ r v (RepA.ext (β := V' ++ R') ⟨hmono, fun j hj => ?_⟩ r v hir hr'))
  obtain ⟨bj, hbj⟩ := Option.ne_none_iff_exists'.1 hj
  exact hval hbj
theorem does_callG' {x : Operand} {args : Array Operand} {ts : Array TypeId} {f : FuncId} {first captured : List A} {al : List A} {V R V' R' : Bx} {r : A} (ren ren' : List (Nat × Nat)) {ups : Bx} {rd : List Nat} {v : A}
    (hx : e x = .fn (.func f) first captured) (hpc : PG P f al V R r V' R') (has : (first ++ args.toList.map e ++ captured).map (frzX β) = A.rens (renOf ren) al)
    (hb : keepB (renOf ren) (frzXsU β (first ++ args.toList.map e ++ captured) ++ β) (V ++ R)) (ho : onceB (renOf ren) (V ++ R) = true) (hin : inBb (V ++ R) (V ++ R)) (hia : A.insB (V ++ R) al)
    (hkeys : V'.map (·.1) = V.map (·.1)) (hvv : V'.all (fun p => renOf ren' p.1 == renOf ren p.1) = true) (hlv : V.all (fun p => p.2.opn) = true)
    (ho' : onceB (renOf ren') (V' ++ R') = true) (hfresh : R'.all (fun p => (look (renOf ren' p.1) (frzXsU β (first ++ args.toList.map e ++ captured) ++ β)).isNone) = true) (hin' : inBb (V' ++ R') (V' ++ R')) (hir : r.inB (V' ++ R'))
    (hups : ups = renB (renOf ren') (V' ++ R') ++ deadB (renOf ren) R ++ frzXsU β (first ++ args.toList.map e ++ captured)) (hrd : rd = (V ++ R).map (fun p => renOf ren p.1) ++ (first ++ args.toList.map e ++ captured).flatMap idsV) (hv : r.ren (renOf ren') = v) :
    Does P dst (.call { callee := .value x, args := args, argTypes := ts }) ty e β v ups rd := by
  subst hv
  exact does_callG ren ren' hx hpc has hb ho hin hia hkeys hvv hlv ho' hfresh hin' hir hups hrd
end
section
variable {P : Program} {rs : List ResultVar} {r : A} {al : List A} {V' R' : Bx} {s : St}
theorem xg_ret (h : RetG P rs r al V' R' s) : retG P rs r al V' R' .ret s := h
theorem retg_ok {vs : List A} {l : List (Nat × Nat)} (h1 : resVs P s rs vs) (h2 : SubA (resA1 (vs.map (frzX s.β))) (r.ren (renOf l))) (h4 : Forget l ⟨s.σ, frzXsU s.β vs ++ s.β⟩ ⟨keptSF 0 al, V' ++ R'⟩) : RetG P rs r al V' R' s := ⟨vs, l, h1, h2, h4⟩
end
end Go.Proofs.YtfplkakfakdfhaaDoor


/-
  The pure layer: a slice of an array that lies in a variable: its length, its elements. No condition.
-/
namespace Go.Proofs.YtfplkakfakdfhaaDoor
set_option linter.unusedSimpArgs false
set_option linter.unusedVariables false
open Go.RowKit

theorem inB_sx {β : Bx} {id n c : Nat} (h : (look id β).isSome = true) : (A.sx id n c).inB β := fun e => by rw [e] at h; cases h
section
variable {P : Program} {dst : Option Nat} {ty : TypeId} {e : Operand → A} {β : Bx} {T : TypeId} {x y : Operand}
end
end Go.Proofs.YtfplkakfakdfhaaDoor


/-
  The pure layer: functions of Go's library without a body; floats held against each other. No condition.
-/
namespace Go.Proofs.YtfplkakfakdfhaaDoor
set_option linter.unusedSimpArgs false
set_option linter.unusedVariables false
open Go.RowKit

/-- A function without a body, that does what g does. -/
structure ExtF (P : Program) (f : FuncId) (g : Array Value → Sem Value) : Prop where
  has : ∃ fn, P.funcs[f]? = some fn ∧ (fn.name == "runtime.NumGoroutine") = false ∧ fn.body.isNone = true ∧ Extern.findNext fn = none ∧ Extern.find fn = some g
theorem run_ext {P : Program} {f : FuncId} {g : Array Value → Sem Value} (h : ExtF P f g) {args : Array Value} {w : World} {v : Value} (hg : (g args).run P w = .ok v w) : (callFunc f args).run P w = .ok (.value v) w := by
  obtain ⟨fn, hf, hn, hb, hx, he⟩ := h.has
  unfold callFunc
  have : ¬ fn.name = "runtime.NumGoroutine" := by simpa using hn
  have hb2 : fn.body = none := by simpa using hb
  have hm : Sem.run P (Sem.mark (Mark.extern f) (Sem.pure ())) w = .ok () w := rfl
  simp [Sem.run_bind, hf, hb2, this, mark, hx, he, hg, hm]
section
variable {P : Program} {dst : Option Nat} {ty : TypeId} {e : Operand → A} {β : Bx} {T T' : TypeId} {x y : Operand}
theorem does_ext1 {f : FuncId} {g : Array Value → Sem Value} {z : Operand} {ts : Array TypeId} {u v : Value} (hf : ExtF P f g) (hx : e x = .fn (.func f) [] []) (hz : e z = .d (.sc u)) (hg : ∀ w, (g #[u]).run P w = .ok v w) (hv : v.oneCell' = true) :
    Does P dst (.call { callee := .value x, args := #[z], argTypes := ts }) ty e β (.d (.sc v)) [] [] :=
  Does.of_run fun C γ _ ρ I w _ a hops o ho _ => by
    have h1 := (hops x (by simp [Op.operands, Call.operands])).2
    have h2 := (hops z (by simp [Op.operands, Call.operands])).2
    rw [hx] at h1
    rw [hz] at h2
    obtain ⟨us, vs, h1, h3, h4⟩ := h1
    have h3 : us.toList = [] := h3
    have h4 : vs.toList = [] := h4
    have e1 : us = #[] := by simpa using h3
    have e2 : vs = #[] := by simpa using h4
    subst e1 e2
    have h2 : a.eval z = u := (repA_sc h2)
    refine ⟨v, ?_, trivial, rfl, hv⟩
    simp only [execOp, ho, resolve, Sem.run_bind, h1, Deferred.ofValue, Sem.run_pure, Result.andThen_ok, invoke]
    have := run_ext hf (hg w)
    simpa [h2] using this
def fltD (b : Nat) : D := .sc (.float .f64 b)
def fltV (bo : BinOp) (a b : Nat) : Bool := match bo with
  | .lss => FloatKind.f64.format.order a b == some .lt
  | .gtr => FloatKind.f64.format.order a b == some .gt
  | .eql => FloatKind.f64.format.order a b == some .eq
  | .neq => FloatKind.f64.format.order a b != some .eq
  | _ => false
theorem does_flt {bo : BinOp} {a b : Nat} (hx : e x = .d (fltD a)) (hy : e y = .d (fltD b)) (hk : bo = .lss ∨ bo = .gtr ∨ bo = .eql ∨ bo = .neq) : Does P dst (.binOp bo T x y T') ty e β (.d (bD (fltV bo a b))) [] [] :=
  Does.of_run fun C γ _ ρ I w _ ac hops o ho _ => by
    have h1 := (hops x (by simp [Op.operands])).2
    have h2 := (hops y (by simp [Op.operands])).2
    rw [hx] at h1
    rw [hy] at h2
    have h1 := repA_sc h1
    have h2 := repA_sc h2
    refine ⟨.bool (fltV bo a b), ?_, trivial, rfl, rfl⟩
    unfold execOp
    simp only [ho, h1, h2]
    rcases hk with rfl | rfl | rfl | rfl <;> (simp [eqGuard, binOp, Op.floatCmp, fltV, Sem.run_bind]; done)
end
end Go.Proofs.YtfplkakfakdfhaaDoor


/-
  The pure layer: a field that holds nil holds an empty row of the call's own. No condition.
-/
namespace Go.Proofs.YtfplkakfakdfhaaDoor
set_option linter.unusedSimpArgs false
set_option linter.unusedVariables false
open Go.RowKit

section
variable {P : Program} {σ : Sl} {β : Bx}
theorem ent_nilF (i k rid : Nat) {T E : TypeId} {sz : Nat} {cs : List A} (hi : look i β = some (.var T cs)) (hk : cs[k]? = some (.d .nl)) (hf : look rid β = none) :
    Ent ⟨σ, β⟩ ⟨σ, (i, .var T (cs.set k (.ow rid 0))) :: (rid, .row E sz []) :: β⟩ := by
  rintro C a w ⟨ρ, I, hm, hfr⟩
  obtain ⟨m1, x1⟩ := hm.new_box hf (v := .slice none 0 0) (b := .row E sz []) (w' := w) (World.grownBy.refl w none) (fun g hg => by cases hg) (fun hx => ⟨[], by rw [upd_same]; exact World.ownsRow_nil w 0 E sz, rfl⟩) trivial
  have hir : i ≠ rid := by rintro rfl; rw [hi] at hf; cases hf
  have hi1 : look i ([(rid, Box.row E sz [])] ++ β) = some (.var T cs) := by
    rw [look_append, look_cons, if_neg (Ne.symm hir)]; exact hi
  have hst : ∀ {id : Nat} {b : Box}, look id ((i, .var T (cs.set k (.ow rid 0))) :: (rid, .row E sz []) :: β) = some b → ∃ b', look id ([(rid, Box.row E sz [])] ++ β) = some b' ∧ ∀ (w : World) (v : Value) (g : Nat), b.has w v g ↔ b'.has w v g := fun {id b} hb => by
    rw [look_cons] at hb
    split at hb
    · rename_i e
      injection hb with hb
      subst hb
      subst e
      exact ⟨_, hi1, fun _ _ _ => Iff.rfl⟩
    · exact ⟨b, hb, fun _ _ _ => Iff.rfl⟩
  have hdm : ∀ {id : Nat}, dom ([(rid, Box.row E sz [])] ++ β) id → dom ((i, .var T (cs.set k (.ow rid 0))) :: (rid, .row E sz []) :: β) id := fun {id} hd => by
    unfold dom at *
    rw [look_cons]
    split
    · exact Option.some_ne_none _
    · exact hd
  have m2 : Mem C ((i, .var T (cs.set k (.ow rid 0))) :: (rid, .row E sz []) :: β) (updF ρ rid (.slice none 0 0)) I w :=
    { os := m1.os, tape := m1.tape, output := m1.output, size := m1.size, frame := m1.frame, imm := m1.imm, new := m1.new, gl := m1.gl
      box := fun id b hb => by
        rw [look_cons] at hb
        split at hb
        · rename_i e
          injection hb with hb
          subst hb
          subst e
          obtain ⟨g, us, q1, q2, q3⟩ := m1.box i _ hi1
          obtain ⟨u, y1, y2, _⟩ := repAs_get q3 hk
          have y2 : u = .slice none 0 0 := y2
          subst y2
          exact ⟨g, us, q1, q2, repAs_setA rfl q3 y1 ⟨(upd_same _ _ _).symm, none, 0, rfl, Nat.le_refl _, fun h => absurd h (by simp)⟩⟩
        · exact m1.box id b hb
      own := fun id b g hb hg => by
        obtain ⟨b', q1, q2⟩ := hst hb
        exact m1.own id b' g q1 ((q2 _ _ _).1 hg)
      inj := fun a c b b' g ha hc hg hg' => by
        obtain ⟨b1, q1, q2⟩ := hst ha
        obtain ⟨b2, q3, q4⟩ := hst hc
        exact m1.inj a c b1 b2 g q1 q3 ((q2 _ _ _).1 hg) ((q4 _ _ _).1 hg')
      clo := fun id b hb => by
        rw [look_cons] at hb
        split at hb
        · rename_i e
          injection hb with hb
          subst hb
          subst e
          have hc := m1.clo i _ hi1
          refine insB_setA ?_ (A.insB_mono (fun j hj => hdm hj) cs hc)
          show dom _ rid
          unfold dom
          rw [look_cons, if_neg hir, look_cons, if_pos rfl]
          exact Option.some_ne_none _
        · exact Box.inB_mono (fun j hj => hdm hj) b (m1.clo id b hb) }
  refine ⟨_, I, m2, hfr.defers, hfr.size, hfr.keep, fun t v ht => ?_⟩
  obtain ⟨k1, k2, k3⟩ := hfr.val t v ht
  exact ⟨k1, A.inB_mono (fun j hj => hdm (dom_append (γ := [(rid, Box.row E sz [])]) hj)) v k2, RepA.ext x1 v _ k2 k3⟩
end
end Go.Proofs.YtfplkakfakdfhaaDoor


/-
  The pure layer: the head of a row of one's own, as a row of one's own. No condition.
-/
namespace Go.Proofs.YtfplkakfakdfhaaDoor
set_option linter.unusedSimpArgs false
set_option linter.unusedVariables false
open Go.RowKit

theorem Mem.cut_box {C : Ctx} {γ : Bx} {ρ : Nat → Value} {I : Nat → Prop} {w w' : World} (hm : Mem C γ ρ I w) {fr id : Nat} (hf : look fr γ = none) {E : TypeId} {sz : Nat} {es es2 : List (List D)} (hl : look id γ = some (.row E sz es)) {v' : Value} {xs : List Value}
    (hg : w.grownBy w' (ρ id).ownBlock) (hblk : v'.ownBlock = (ρ id).ownBlock ∨ v'.ownBlock = some w.heap.size) (hown : w'.ownsRow 0 E sz v' es2.length xs) (hR : RepR I w sz es2 xs) :
    Mem C ([(fr, .row E sz es2), (id, .dead)] ++ γ) (updF ρ fr v') I w' ∧ Ext γ ρ I w (updF ρ fr v') I w' := by
  obtain ⟨xs0, k1, k2⟩ := hm.box id _ hl
  obtain ⟨ad, c, k3, _⟩ := own_form k1
  have hb0 : blk (ρ id) = (ρ id).ownBlock := blk_own k3
  obtain ⟨ad', c', k4, _⟩ := own_form hown
  have hb1 : blk v' = v'.ownBlock := blk_own k4
  have hne : id ≠ fr := fun e => by rw [e, hf] at hl; cases hl
  have hx : Ext γ ρ I w (updF ρ fr v') I w' := ⟨⟨fun _ h => h, fun g h => hg.block g (hm.imm g h) (fun e => by
    exact (hm.own id _ g hl (hb0.trans e.symm)).2.1 h)⟩, upd_dom hf ρ v'⟩
  have hlt : ∀ g, v'.ownBlock = some g → g < w'.heap.size := fun g h => (hown.lt g h).2
  refine ⟨hm.upd _ hx hg.os hg.tape hg.output hg.size (fun g h => Nat.lt_of_lt_of_le (hm.imm g h) hg.size) (fun g h => .inl h) (fun k => (ρ id).ownBlock = some k) (fun k hk hn => hg.block k hk (fun e => hn e.symm)) (fun k h => (hm.own id _ k hl (hb0.trans h)).2.2)
    (fun i b g hi hn hbk => ⟨fun e => ?_, (hm.own i b g hi hbk).2.1⟩) (fun i b h => ?_) (fun i j b b' g hi hj hl1 hl2 => ?_), hx⟩
  · exact (look_pair_none hn).2 (hm.inj i id b _ g hi hl hbk (hb0.trans e))
  · rcases look_pair h with ⟨rfl, rfl⟩ | ⟨h1, rfl, rfl⟩
    · refine ⟨⟨xs, by rw [upd_same]; exact hown, RepR.ext hx.toExtI _ _ _ hR⟩, trivial, fun g hbk => ?_⟩
      have hbk : blk _ = some g := hbk
      rw [upd_same, hb1] at hbk
      refine ⟨hlt g hbk, ?_, ?_, fun id2 b2 hl2 hn2 hbk2 => ?_⟩
      · rcases hblk with h | h
        · exact (hm.own id _ g hl (hb0.trans (h.symm.trans hbk))).2.1
        · intro hI
          rw [h] at hbk
          injection hbk with hbk
          have := hm.imm g hI
          omega
      · rcases hblk with h | h
        · exact (hm.own id _ g hl (hb0.trans (h.symm.trans hbk))).2.2
        · rw [h] at hbk
          injection hbk with hbk
          have := hm.size
          exact .inl (by omega)
      · rcases hblk with h | h
        · exact (look_pair_none hn2).2 (hm.inj id2 id b2 _ g hl2 hl hbk2 (hb0.trans (h.symm.trans hbk)))
        · have := (hm.own id2 b2 g hl2 hbk2).1
          rw [h] at hbk
          injection hbk with hbk
          omega
    · exact ⟨trivial, trivial, fun g h => by cases h⟩
  · rcases look_pair hi with ⟨e1, rfl⟩ | ⟨_, _, rfl⟩
    · rcases look_pair hj with ⟨e2, rfl⟩ | ⟨_, _, rfl⟩
      · rw [e1, e2]
      · cases hl2
    · cases hl1
theorem own_take {w : World} {base : Nat} {E : TypeId} {size h n c : Nat} {ad : Option Addr} {xs : List Value} (hw : w.ownsRow base E size (.slice ad n c) n xs) (hh : h ≤ n) : w.ownsRow base E size (.slice ad h c) h (xs.take (h * size)) := by
  obtain ⟨h1, h2⟩ := hw
  have hm : h * size ≤ n * size := Nat.mul_le_mul_right _ hh
  refine ⟨by rw [List.length_take, h1]; omega, ?_⟩
  rcases h2 with ⟨h2, h3⟩ | ⟨g, cap, cur, h2, h3, h4, h5, h6, h7, h8⟩
  · injection h2 with e1 e2 e3
    subst e1 e3
    exact .inl ⟨by rw [show h = 0 by omega], by omega⟩
  · injection h2 with e1 e2 e3
    subst e1 e3
    exact .inr ⟨g, _, cur, rfl, h3, h4, by omega, h6, h7, by rw [← h8, List.take_take, Nat.min_eq_left hm]⟩
section
variable {P : Program} {fr : Nat} {ty : TypeId} {e : Operand → A} {β : Bx}
theorem does_slice_own {T el : TypeId} {t te : TyI} {x : Operand} {hi : Option Operand} {id n h : Nat} {E : TypeId} {sz : Nat} {es es2 : List (List D)} (ht : mkTy P T = some t) (hk : t.kind = .slice el) (hte : mkTy P el = some te) (hx : e x = .ow id n) (hl : look id β = some (.row E sz es)) (hn : es.length = n) (hh : hiIs e h n hi) (h1 : h ≤ n) (h2 : es.take h = es2) (hf : look fr β = none) :
    Does P (some fr) (.slice T x none hi none) ty e β (.ow fr h) [(fr, .row E sz es2), (id, .dead)] [id] := by
  subst h2 hn
  intro C γ hag ρ I w hm a hops o ho hd hty K Q hK
  have hf2 : look fr γ = none := (hag fr (by simp)).trans hf
  have hl2 : look id γ = some (.row E sz es) := (hag id (by simp)).trans hl
  have q1 := (hops x (by simp [Op.operands])).2
  rw [hx] at q1
  have q1 : a.eval x = ρ id := q1.1
  obtain ⟨xs0, k1, k2⟩ := hm.box id _ hl2
  obtain ⟨ad, c, k3, k4, k5⟩ := own_form k1
  obtain ⟨kk, v2⟩ := hi_val (a := a) hh fun y hy => (hops y (by cases hi <;> simp_all [Op.operands])).2
  have hrun := run_slice (P := P) ht hk hte (ad := ad) (c := c) (nn := es.length) (lo := none) (k1 := .i64) (.inr ⟨rfl, rfl⟩) v2 (Nat.zero_le h) (by omega) w
  have had : (if c = 0 then ad else ad.map (·.add (0 * te.size))) = ad := by
    split
    · rfl
    · rw [Nat.zero_mul]
      cases ad with
      | none => rfl
      | some p => rfl
  rw [had, Nat.sub_zero, Nat.sub_zero] at hrun
  rw [k3] at k1
  have hown := own_take k1 h1
  have hlen : (es.take h).length = h := by rw [List.length_take]; omega
  have hb : (Value.slice ad h c).ownBlock = (ρ id).ownBlock := by rw [k3]; cases ad <;> rfl
  obtain ⟨m1, m2⟩ := hm.cut_box (v' := .slice ad h c) (es2 := es.take h) hf2 hl2 (World.grownBy.refl w _) (.inl hb) (by rw [hlen]; exact hown) (repR_take h k2)
  unfold Oper.wp
  have hrun : (execOp a.eval o).run P w = .ok (.value (.slice ad h c)) w := by
    simp only [execOp, ho, q1, k3, Sem.run_bind, Option.map_none, hrun]
    rfl
  rw [hrun, Oper.upon_value, hd]
  exact hK _ _ I w m1 m2 (by unfold A.inB dom; simp [look_append, look_cons]) (ow_rep hown (upd_same _ _ _))
/-- The end of a row of one's own, to be read. -/
theorem does_slice_ov {dst : Option Nat} {T el : TypeId} {t te : TyI} {x lo : Operand} {id n k m sz : Nat} {kk : IntKind} {kv : Int} (ht : mkTy P T = some t) (hk : t.kind = .slice el) (hte : mkTy P el = some te) (hx : e x = .ow id n) (hlo : e lo = .d (.sc (.int kk kv))) (hkv : kv = (k : Nat)) (hn : k + m = n) (hm0 : 0 < m) (hsz : te.size = sz) :
    Does P dst (.slice T x (some lo) none none) ty e β (.ov id sz k m) [] [] :=
  Does.of_run fun C γ _ ρ I w _ a hops o ho _ => by
    subst hkv hsz
    obtain ⟨q0, q1⟩ := hops x (by simp [Op.operands])
    have q2 := (hops lo (by simp [Op.operands])).2
    rw [hx] at q0 q1
    rw [hlo] at q2
    obtain ⟨e1, ad, c, e2, hc, hg⟩ := q1
    obtain ⟨g, rfl⟩ := hg (by omega)
    have hrun := run_slice (P := P) ht hk hte (ad := some ⟨g, 0, none⟩) (c := c) (nn := n) (l := k) (h := n) (hi := none) (k2 := .i64) (.inl (congrArg some (repA_sc q2))) (.inr ⟨rfl, rfl⟩) (by omega) (by omega) w
    rw [if_neg (by omega)] at hrun
    refine ⟨_, ?_, q0, ⟨g, n, c, e1.symm.trans e2, hm0, by omega, c - k, by rw [show m = n - k by omega]⟩⟩
    simp only [execOp, ho, e2, Sem.run_bind, Option.map_none, Option.map_some, hrun]
    simp [Addr.add]
    intro h
    rw [h]
end
end Go.Proofs.YtfplkakfakdfhaaDoor

