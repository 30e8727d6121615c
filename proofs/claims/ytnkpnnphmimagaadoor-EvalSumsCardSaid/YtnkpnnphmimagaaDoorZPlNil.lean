/-
  The pure layer: a pointer contract whose variable holds nil where the contract speaks of an empty row; two slices of one's own read as data at once. No condition.
-/
import Derived.Test.YtnkpnnphmimagaaDoorZB
import Derived.Test.YtnkpnnphmimagaaDoorZC
namespace Go.Proofs.YtnkpnnphmimagaaDoor
set_option linter.unusedSimpArgs false
set_option linter.unusedVariables false
open Go.RowKit

section
variable {P : Program} {dst : Option Nat} {ty : TypeId} {e : Operand → A} {β : Bx}
end
section
variable {P : Program} {dst : Option Nat} {ty : TypeId} {e : Operand → A} {β : Bx}
end
theorem lapp_7 (a b c d e f g : Nat × Box) (β : Bx) : [a, b, c, d, e, f, g] ++ β = a :: b :: c :: d :: e :: f :: g :: β := rfl
theorem lapp_8 (a b c d e f g h : Nat × Box) (β : Bx) : [a, b, c, d, e, f, g, h] ++ β = a :: b :: c :: d :: e :: f :: g :: h :: β := rfl
theorem lapp_9 (a b c d e f g h i : Nat × Box) (β : Bx) : [a, b, c, d, e, f, g, h, i] ++ β = a :: b :: c :: d :: e :: f :: g :: h :: i :: β := rfl
theorem repAs_setA {ρ : Nat → Value} {I : Nat → Prop} {w : World} {v : A} (hone : v.one = true) : ∀ {cs : List A} {us : List Value} {k : Nat} {u : Value}, RepAs ρ I w true cs us → us[k]? = some u → RepA ρ I w v u → RepAs ρ I w true (cs.set k v) us
  | [], _, k, u, h, hk, _ => by cases h; cases hk
  | c :: cs, _, 0, u, ⟨x, xs, rfl, ho, h1, h2⟩, hk, hr => by
    have hk : some x = some u := hk
    injection hk with hk
    exact ⟨x, xs, rfl, fun _ => hone, hk ▸ hr, h2⟩
  | c :: cs, _, k + 1, u, ⟨x, xs, rfl, ho, h1, h2⟩, hk, hr => ⟨x, xs, rfl, ho, h1, repAs_setA hone h2 (by simpa using hk) hr⟩
theorem insB_setA {β : Bx} {v : A} (hv : v.inB β) : ∀ {cs : List A} {k : Nat}, A.insB β cs → A.insB β (cs.set k v)
  | [], _, h => h
  | c :: cs, 0, h => ⟨hv, h.2⟩
  | c :: cs, k + 1, h => ⟨h.1, insB_setA hv h.2⟩
theorem PX.nil {P : Program} {f : FuncId} {al : List A} {V R V2 R2 V' R' : Bx} {r : D} (i k rid : Nat) {T E : TypeId} {sz : Nat} {cs : List A} (h : PX P f al V2 R2 r V' R') (hi : look i (V ++ R) = some (.var T cs)) (hk : cs[k]? = some (.d .nl)) (hf : look rid (V ++ R) = none)
    (h2 : ∀ id, look id (V2 ++ R2) = look id ((i, .var T (cs.set k (.ow rid 0))) :: (rid, .row E sz []) :: (V ++ R))) (hV' : ∀ p ∈ V', p.1 ≠ rid) : PX P f al V R r V' R' := by
  refine ⟨h.enters, fun ρ I w vs hm hin hr => ?_⟩
  obtain ⟨m1, x1⟩ := hm.new_box hf (v := .slice none 0 0) (b := .row E sz []) (w' := w) (World.grownBy.refl w none) (fun g hg => by cases hg) (fun hx => ⟨[], by rw [upd_same]; exact World.ownsRow_nil w 0 E sz, rfl⟩) trivial
  have hir : i ≠ rid := by rintro rfl; rw [hi] at hf; cases hf
  have hi1 : look i ([(rid, Box.row E sz [])] ++ (V ++ R)) = some (.var T cs) := by
    rw [look_append, look_cons, if_neg (Ne.symm hir)]; exact hi
  have hst : ∀ {id : Nat} {b : Box}, look id ((i, .var T (cs.set k (.ow rid 0))) :: (rid, .row E sz []) :: (V ++ R)) = some b → ∃ b', look id ([(rid, Box.row E sz [])] ++ (V ++ R)) = some b' ∧ b'.live = b.live := fun {id b} hb => by
    rw [look_cons] at hb
    split at hb
    · rename_i e
      injection hb with hb
      subst hb
      subst e
      exact ⟨_, hi1, rfl⟩
    · exact ⟨b, hb, rfl⟩
  have hdm : ∀ {id : Nat}, dom ([(rid, Box.row E sz [])] ++ (V ++ R)) id → dom ((i, .var T (cs.set k (.ow rid 0))) :: (rid, .row E sz []) :: (V ++ R)) id := fun {id} hd => by
    unfold dom at *
    rw [look_cons]
    split
    · exact Option.some_ne_none _
    · exact hd
  have m2 : Mem (ctxOf (V ++ R) ρ I w) ((i, .var T (cs.set k (.ow rid 0))) :: (rid, .row E sz []) :: (V ++ R)) (updF ρ rid (.slice none 0 0)) I w :=
    { os := m1.os, tape := m1.tape, output := m1.output, size := m1.size, frame := m1.frame, imm := m1.imm, new := m1.new, gl := m1.gl
      box := fun id b hb => by
        rw [look_cons] at hb
        split at hb
        · rename_i e
          injection hb with hb
          subst hb
          subst e
          obtain ⟨g, us, q1, q2, q3⟩ := m1.box i _ hi1
          obtain ⟨u, y1, y2, _⟩ := repAs_get q3 hk
          have y2 : u = .slice none 0 0 := y2
          subst y2
          exact ⟨g, us, q1, q2, repAs_setA rfl q3 y1 ⟨(upd_same _ _ _).symm, none, 0, rfl, Nat.le_refl _, fun h => absurd h (by simp)⟩⟩
        · exact m1.box id b hb
      own := fun id b g hb hl hg => by
        obtain ⟨b', q1, q2⟩ := hst hb
        exact m1.own id b' g q1 (q2.trans hl) hg
      inj := fun a c b b' g ha hc hl hl' hg hg' => by
        obtain ⟨b1, q1, q2⟩ := hst ha
        obtain ⟨b2, q3, q4⟩ := hst hc
        exact m1.inj a c b1 b2 g q1 q3 (q2.trans hl) (q4.trans hl') hg hg'
      clo := fun id b hb => by
        rw [look_cons] at hb
        split at hb
        · rename_i e
          injection hb with hb
          subst hb
          subst e
          have hc := m1.clo i _ hi1
          refine insB_setA ?_ (A.insB_mono (fun j hj => hdm hj) cs hc)
          show dom _ rid
          unfold dom
          rw [look_cons, if_neg hir, look_cons, if_pos rfl]
          exact Option.some_ne_none _
        · exact Box.inB_mono (fun j hj => hdm hj) b (m1.clo id b hb) }
  have m3 := m2.congr h2
  have hPB : PBof (V2 ++ R2) (updF ρ rid (.slice none 0 0)) = PBof (V ++ R) ρ := by
    funext g
    refine propext ⟨fun ⟨id, b, q1, q2, q3⟩ => ?_, fun ⟨id, b, q1, q2, q3⟩ => ?_⟩
    · rw [h2] at q1
      obtain ⟨b', q4, q5⟩ := hst q1
      by_cases hid : id = rid
      · subst hid; rw [upd_same] at q3; cases q3
      · rw [upd_other _ _ _ hid] at q3
        rw [look_append, look_cons, if_neg (Ne.symm hid)] at q4
        exact ⟨id, b', q4, q5.trans q2, q3⟩
    · have hid : id ≠ rid := by rintro rfl; rw [q1] at hf; cases hf
      refine ⟨id, if id = i then .var T (cs.set k (.ow rid 0)) else b, ?_, ?_, by rw [upd_other _ _ _ hid]; exact q3⟩
      · rw [h2, look_cons]
        by_cases hii : i = id
        · rw [if_pos hii, if_pos hii.symm]
        · rw [if_neg hii, if_neg (Ne.symm hii), look_cons, if_neg (Ne.symm hid)]; exact q1
      · by_cases hii : id = i
        · rw [if_pos hii]; rfl
        · rw [if_neg hii]; exact q2
  have m4 : Mem (ctxOf (V2 ++ R2) (updF ρ rid (.slice none 0 0)) I w) (V2 ++ R2) (updF ρ rid (.slice none 0 0)) I w := m3.ctx rfl hPB rfl
  have hin2 : A.insB (V2 ++ R2) al := A.insB_mono (fun j hj => by
    have : dom ([(rid, Box.row E sz [])] ++ (V ++ R)) j := dom_append hj
    have := hdm this
    unfold dom at *
    rw [h2]; exact this) al hin
  refine (h.calls _ I w vs m4 hin2 (RepAs.ext x1 false al _ hin hr)).mono fun en w' ⟨v, ρ', I', he, hρ, hm', hr'⟩ => ⟨v, ρ', I', he, fun p hp => (hρ p hp).trans (upd_other _ _ _ (hV' p hp)), hm'.ctx rfl hPB.symm rfl, hr'⟩
end Go.Proofs.YtnkpnnphmimagaaDoor

