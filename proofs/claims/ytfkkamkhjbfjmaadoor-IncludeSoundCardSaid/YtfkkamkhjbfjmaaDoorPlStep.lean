/-
  The pure layer: the steps of a walk, one lemma a step. No condition.
-/
import Derived.Test.YtfkkamkhjbfjmaaDoorPlCall
namespace Go.Proofs.YtfkkamkhjbfjmaaDoor
set_option linter.unusedSimpArgs false
set_option linter.unusedVariables false
open Go.RowKit

section
variable {P : Program} {all r : List Oper} {σ : Sl} {β : Bx} {K : Sl → Bx → Prop} {t : Nat} {op : Op} {ty : TypeId} {pos : String} {af : Array Edge} {v : A} {rd : List Nat} {i j : Nat} {b c : Box} {rs : List Rec}
theorem rp (hs : Does P (some t) op ty (ev σ) β v [] rd) (h : runP P all r ((t, v) :: σ) β K) : runP P all (⟨some t, op, ty, pos, af, none⟩ :: r) σ β K := ⟨v, [], rd, hs, h⟩
theorem rp1 (hs : Does P (some t) op ty (ev σ) β v [(i, b)] rd) (h : runP P all r ((t, v) :: σ) ((i, b) :: β) K) : runP P all (⟨some t, op, ty, pos, af, none⟩ :: r) σ β K := ⟨v, _, rd, hs, h⟩
theorem rp2 (hs : Does P (some t) op ty (ev σ) β v [(i, b), (j, c)] rd) (h : runP P all r ((t, v) :: σ) ((i, b) :: (j, c) :: β) K) : runP P all (⟨some t, op, ty, pos, af, none⟩ :: r) σ β K := ⟨v, _, rd, hs, h⟩
theorem rpU {ups : Bx} (hs : Does P (some t) op ty (ev σ) β v ups rd) (h : runP P all r ((t, v) :: σ) (ups ++ β) K) : runP P all (⟨some t, op, ty, pos, af, none⟩ :: r) σ β K := ⟨v, _, rd, hs, h⟩
theorem rpN (hs : Does P none op ty (ev σ) β v [(i, b)] rd) (h : runP P all r σ ((i, b) :: β) K) : runP P all (⟨none, op, ty, pos, af, none⟩ :: r) σ β K := ⟨v, _, rd, hs, h⟩
theorem rpNU {ups : Bx} (hs : Does P none op ty (ev σ) β v ups rd) (h : runP P all r σ (ups ++ β) K) : runP P all (⟨none, op, ty, pos, af, none⟩ :: r) σ β K := ⟨v, _, rd, hs, h⟩
theorem gval_t {x : Bool} (h : look t σ = some (.d (bD x))) : gval σ t true = some x := by unfold gval; rw [h]; rfl
theorem gval_f {x : Bool} (h : look t σ = some (.d (bD x))) : gval σ t false = some (!x) := by unfold gval; rw [h]; rfl
theorem gval_gt {x y : Bool} (h : look t σ = some (.gd y (.d (bD x)))) : gval σ t true = some (y && x) := by unfold gval; rw [h]; rfl
theorem gval_gf {x y : Bool} (h : look t σ = some (.gd y (.d (bD x)))) : gval σ t false = some (y && !x) := by unfold gval; rw [h]; rfl
theorem stepG {d : Nat} {g : Nat × Bool} {want x : Bool} (hg : guardT all ⟨some d, op, ty, pos, af, some g⟩ = some (some (t, want))) (hx : gval σ t want = some x) (hgt : gates x (ev σ) op.operands.toList) (hd : x = true → Does P (some d) op ty (fun y => stripA (ev σ y)) β v [] rd) :
    StepSem P all σ β ⟨some d, op, ty, pos, af, some g⟩ (.gd x v) [] rd := by
  unfold StepSem
  rw [hg]
  exact .inl ⟨x, v, fun _ => true, hx, hgt, rfl, rfl, hd⟩
/-- A guarded pick: only the condition's guard has to follow. -/
def isT (k : Nat) : Operand → Bool
  | .tmp n => n == k
  | _ => false
theorem gates_isT {x : Bool} {e : Operand → A} {k : Nat} (h : gdOk x (e (.tmp k))) : ∀ l : List Operand, gates x (selU (isT k) e) l
  | [] => trivial
  | y :: l => by
    refine ⟨?_, gates_isT h l⟩
    unfold selU
    cases hk : isT k y with
    | false => trivial
    | true =>
      cases y with
      | tmp n =>
        have : n = k := by simpa [isT] using hk
        subst this
        exact h
      | _ => cases hk
theorem stepGP {d k : Nat} {p q : Operand} {g : Nat × Bool} {want x : Bool} (hg : guardT all ⟨some d, .pick (.tmp k) p q, ty, pos, af, some g⟩ = some (some (t, want))) (hx : gval σ t want = some x) (hc : gdOk x (ev σ (.tmp k))) (hd : x = true → Does P (some d) (.pick (.tmp k) p q) ty (selA (isT k) (ev σ)) β v [] rd) :
    StepSem P all σ β ⟨some d, .pick (.tmp k) p q, ty, pos, af, some g⟩ (.gd x v) [] rd := by
  unfold StepSem
  rw [hg]
  exact .inl ⟨x, v, isT k, hx, gates_isT hc _, rfl, rfl, hd⟩
theorem rpGP {d k : Nat} {p q : Operand} {g : Nat × Bool} {want x : Bool} (hg : guardT all ⟨some d, .pick (.tmp k) p q, ty, pos, af, some g⟩ = some (some (t, want))) (hx : gval σ t want = some x) (hc : gdOk x (ev σ (.tmp k))) (hd : x = true → Does P (some d) (.pick (.tmp k) p q) ty (selA (isT k) (ev σ)) β v [] rd)
    (h : runP P all r ((d, .gd x v) :: σ) β K) : runP P all (⟨some d, .pick (.tmp k) p q, ty, pos, af, some g⟩ :: r) σ β K := ⟨.gd x v, [], rd, stepGP hg hx hc hd, h⟩
theorem drGP {d k : Nat} {p q : Operand} {g : Nat × Bool} {want x : Bool} (hg : guardT all ⟨some d, .pick (.tmp k) p q, ty, pos, af, some g⟩ = some (some (t, want))) (hx : gval σ t want = some x) (hc : gdOk x (ev σ (.tmp k))) (hd : x = true → Does P (some d) (.pick (.tmp k) p q) ty (selA (isT k) (ev σ)) β v [] rd)
    (h : runD P all r ((d, .gd x v) :: σ) β (mkRec all ⟨some d, .pick (.tmp k) p q, ty, pos, af, some g⟩ [] rd :: rs) K) : runD P all (⟨some d, .pick (.tmp k) p q, ty, pos, af, some g⟩ :: r) σ β rs K := ⟨.gd x v, [], rd, stepGP hg hx hc hd, h⟩
theorem rpG {d : Nat} {g : Nat × Bool} {want x : Bool} (hg : guardT all ⟨some d, op, ty, pos, af, some g⟩ = some (some (t, want))) (hx : gval σ t want = some x) (hgt : gates x (ev σ) op.operands.toList) (hd : x = true → Does P (some d) op ty (fun y => stripA (ev σ y)) β v [] rd)
    (h : runP P all r ((d, .gd x v) :: σ) β K) : runP P all (⟨some d, op, ty, pos, af, some g⟩ :: r) σ β K := ⟨.gd x v, [], rd, stepG hg hx hgt hd, h⟩
/-- The guard fails. -/
theorem stepGF {d : Nat} {g : Nat × Bool} {want x : Bool} (hg : guardT all ⟨some d, op, ty, pos, af, some g⟩ = some (some (t, want))) (hx : gval σ t want = some x) (hf : x = false) (hgt : gates x (ev σ) op.operands.toList) : StepSem P all σ β ⟨some d, op, ty, pos, af, some g⟩ (.gd x .un) [] [] :=
  stepG hg hx hgt fun h => by rw [hf] at h; cases h
theorem rpGF {d : Nat} {g : Nat × Bool} {want x : Bool} (hg : guardT all ⟨some d, op, ty, pos, af, some g⟩ = some (some (t, want))) (hx : gval σ t want = some x) (hf : x = false) (hgt : gates x (ev σ) op.operands.toList)
    (h : runP P all r ((d, .gd x .un) :: σ) β K) : runP P all (⟨some d, op, ty, pos, af, some g⟩ :: r) σ β K := ⟨.gd x .un, [], [], stepGF hg hx hf hgt, h⟩
theorem rp_nil (h : K σ β) : runP P all [] σ β K := h
theorem dr (hs : Does P (some t) op ty (ev σ) β v [] rd) (h : runD P all r ((t, v) :: σ) β (mkRec all ⟨some t, op, ty, pos, af, none⟩ [] rd :: rs) K) : runD P all (⟨some t, op, ty, pos, af, none⟩ :: r) σ β rs K := ⟨v, [], rd, hs, h⟩
theorem dr1 (hs : Does P (some t) op ty (ev σ) β v [(i, b)] rd) (h : runD P all r ((t, v) :: σ) ((i, b) :: β) (mkRec all ⟨some t, op, ty, pos, af, none⟩ [(i, b)] rd :: rs) K) : runD P all (⟨some t, op, ty, pos, af, none⟩ :: r) σ β rs K := ⟨v, _, rd, hs, h⟩
theorem dr2 (hs : Does P (some t) op ty (ev σ) β v [(i, b), (j, c)] rd) (h : runD P all r ((t, v) :: σ) ((i, b) :: (j, c) :: β) (mkRec all ⟨some t, op, ty, pos, af, none⟩ [(i, b), (j, c)] rd :: rs) K) : runD P all (⟨some t, op, ty, pos, af, none⟩ :: r) σ β rs K := ⟨v, _, rd, hs, h⟩
theorem drU {ups : Bx} (hs : Does P (some t) op ty (ev σ) β v ups rd) (h : runD P all r ((t, v) :: σ) (ups ++ β) (mkRec all ⟨some t, op, ty, pos, af, none⟩ ups rd :: rs) K) : runD P all (⟨some t, op, ty, pos, af, none⟩ :: r) σ β rs K := ⟨v, _, rd, hs, h⟩
theorem drN (hs : Does P none op ty (ev σ) β v [(i, b)] rd) (h : runD P all r σ ((i, b) :: β) (mkRec all ⟨none, op, ty, pos, af, none⟩ [(i, b)] rd :: rs) K) : runD P all (⟨none, op, ty, pos, af, none⟩ :: r) σ β rs K := ⟨v, _, rd, hs, h⟩
theorem drNU {ups : Bx} (hs : Does P none op ty (ev σ) β v ups rd) (h : runD P all r σ (ups ++ β) (mkRec all ⟨none, op, ty, pos, af, none⟩ ups rd :: rs) K) : runD P all (⟨none, op, ty, pos, af, none⟩ :: r) σ β rs K := ⟨v, _, rd, hs, h⟩
theorem drG {d : Nat} {g : Nat × Bool} {want x : Bool} (hg : guardT all ⟨some d, op, ty, pos, af, some g⟩ = some (some (t, want))) (hx : gval σ t want = some x) (hgt : gates x (ev σ) op.operands.toList) (hd : x = true → Does P (some d) op ty (fun y => stripA (ev σ y)) β v [] rd)
    (h : runD P all r ((d, .gd x v) :: σ) β (mkRec all ⟨some d, op, ty, pos, af, some g⟩ [] rd :: rs) K) : runD P all (⟨some d, op, ty, pos, af, some g⟩ :: r) σ β rs K := ⟨.gd x v, [], rd, stepG hg hx hgt hd, h⟩
theorem drGF {d : Nat} {g : Nat × Bool} {want x : Bool} (hg : guardT all ⟨some d, op, ty, pos, af, some g⟩ = some (some (t, want))) (hx : gval σ t want = some x) (hf : x = false) (hgt : gates x (ev σ) op.operands.toList)
    (h : runD P all r ((d, .gd x .un) :: σ) β (mkRec all ⟨some d, op, ty, pos, af, some g⟩ [] [] :: rs) K) : runD P all (⟨some d, op, ty, pos, af, some g⟩ :: r) σ β rs K := ⟨.gd x .un, [], [], stepGF hg hx hf hgt, h⟩
theorem dr_nil (ho : okOrder rs.reverse = true) (h : K σ β) : runD P all [] σ β rs K := ⟨ho, h⟩
end
section
variable {P : Program} {Q : Exit → St → Prop} {s : St} {σ : Sl} {β : Bx} {a b : Code} {id : Nat} {l : List Oper} {K : St → Prop}
theorem aw_seq (h : AW P a (afterE (AW P b Q) Q) s) : AW P (.seq a b) Q s := h
theorem aw_reg (h : runP P l l σ β fun σ β => Q .normal ⟨σ, β⟩) : AW P (.region id l.toArray false) Q ⟨σ, β⟩ := h
theorem aw_regD (h : runD P l l σ β [] fun σ β => Q .normal ⟨σ, β⟩) : AW P (.region id l.toArray true) Q ⟨σ, β⟩ := h
theorem aw_skip (h : Q .normal s) : AW P .skip Q s := h
theorem aw_label {n : Nat} (h : Q .normal s) : AW P (.label n) Q s := h
theorem aw_ret (h : Q .ret s) : AW P .ret Q s := h
theorem aw_exit (h : Q (.exit id) s) : AW P (.exit id) Q s := h
theorem aw_block (h : AW P a (blockE id Q) s) : AW P (.block id a) Q s := h
theorem aw_cond {x : Bool} {c : Operand} (hx : ev σ c = .d (bD x)) (h1 : x = true → AW P a Q ⟨σ, β⟩) (h2 : x = false → AW P b Q ⟨σ, β⟩) : AW P (.cond c a b) Q ⟨σ, β⟩ := ⟨x, hx, h1, h2⟩
theorem aw_loop {c : Code} (I : Nat → St → Prop) (n : Nat) (s1 : St) (hf : Ent s s1) (hI : I n s1) (hr : ∀ n s1, I n s1 → AW P c (afterE (fun s2 => ∃ m s3, m < n ∧ Ent s2 s3 ∧ I m s3) Q) s1) : AW P (.loop c) Q s := ⟨I, ⟨n, s1, hf, hI⟩, hr⟩
theorem ks_nil {π : Nat → Nat} : keepS π σ [] := trivial
theorem ks_cons {π : Nat → Nat} {t : Nat} {u v : A} {τ : Sl} (h1 : look t σ = some u) (h2 : SubA u (v.ren π)) (h3 : keepS π σ τ) : keepS π σ ((t, v) :: τ) := ⟨⟨u, h1, h2⟩, h3⟩
theorem inB_ow {id n : Nat} (h : (look id β).isSome = true) : (A.ow id n).inB β := fun e => by rw [e] at h; cases h
theorem inB_px {id n : Nat} (h : (look id β).isSome = true) : (A.px id n).inB β := fun e => by rw [e] at h; cases h
theorem inB_pr {id sz k n : Nat} (h : (look id β).isSome = true) : (A.pr id sz k n).inB β := fun e => by rw [e] at h; cases h
theorem subA_ow {id n m : Nat} (h : n = m) : SubA (.ow id n) (.ow id m) := h ▸ SubA.refl _
theorem subA_i {n m : Int} (h : n = m) : SubA (.d (iD n)) (.d (iD m)) := h ▸ SubA.refl _
theorem kb_nil {π : Nat → Nat} : keepB π β [] := trivial
theorem kb_cons {π : Nat → Nat} {i : Nat} {b0 b : Box} {δ : Bx} (h1 : look (π i) β = some b0) (h2 : b0 = b.ren π) (h3 : keepB π β δ) : keepB π β ((i, b) :: δ) := ⟨h2 ▸ h1, h3⟩
theorem row_eq {E : TypeId} {sz : Nat} {es fs : List (List D)} (h : es = fs) : Box.row E sz es = Box.row E sz fs := by rw [h]
/-- A slot that holds nil holds an empty row of the call's own. -/
theorem ent_nil (t id : Nat) (E : TypeId) (sz : Nat) (h : look t σ = some (.d .nl)) (hf : look id β = none) : Ent ⟨σ, β⟩ ⟨(t, .ow id 0) :: σ, (id, .row E sz []) :: β⟩ := by
  rintro C a w ⟨ρ, I, hm, hfr⟩
  obtain ⟨h1, _, h3⟩ := hfr.val t _ h
  have h3 : a.tmps.getD t undef = .slice none 0 0 := h3
  obtain ⟨m1, m2⟩ := hm.new_box hf (v := .slice none 0 0) (b := .row E sz []) (w' := w) (World.grownBy.refl w none) (fun g hg => by cases hg) (fun hx => ⟨[], by rw [upd_same]; exact World.ownsRow_nil w 0 E sz, rfl⟩) trivial
  refine ⟨_, I, m1, hfr.defers, hfr.size, hfr.keep, fun k v hk => ?_⟩
  rw [look_cons] at hk
  split at hk
  · rename_i hkt
    subst hkt
    injection hk with hk
    subst hk
    exact ⟨h1, by unfold A.inB dom; simp [look_cons], by rw [h3, upd_same], none, 0, h3, Nat.le_refl _, fun h => absurd h (by simp)⟩
  · obtain ⟨k1, k2, k3⟩ := hfr.val k v hk
    exact ⟨k1, A.inB_mono (fun i hi => dom_append (γ := [(id, Box.row E sz [])]) hi) v k2, RepA.ext m2 v _ k2 k3⟩
theorem ae_norm (h : K s) : afterE K Q .normal s := h
theorem ae_ret (h : Q .ret s) : afterE K Q .ret s := h
theorem ae_exit (h : Q (.exit id) s) : afterE K Q (.exit id) s := h
theorem be_norm (h : Q .normal s) : blockE id Q .normal s := h
theorem be_ret (h : Q .ret s) : blockE id Q .ret s := h
theorem be_exit (h : Q .normal s) : blockE id Q (.exit id) s := by show (if id = id then Q .normal s else Q (.exit id) s); rw [if_pos rfl]; exact h
theorem be_other {i : Nat} (hne : (i == id) = false) (h : Q (.exit i) s) : blockE id Q (.exit i) s := by show (if i = id then Q .normal s else Q (.exit i) s); rw [if_neg (by simpa using hne)]; exact h
theorem aw_goto {n : Nat} (h : Q (.goto n) s) : AW P (.goto n) Q s := h
theorem ae_goto {n : Nat} (h : Q (.goto n) s) : afterE K Q (.goto n) s := h
theorem be_goto {n : Nat} (h : Q (.goto n) s) : blockE id Q (.goto n) s := h
theorem je_goto {n : Nat} (h : K s) : jumpE n K Q (.goto n) s := ⟨rfl, h⟩
theorem je_ret {n : Nat} (h : Q .ret s) : jumpE n K Q .ret s := h
theorem je_norm {n : Nat} (h : Q .normal s) : jumpE n K Q .normal s := h
theorem re_norm {rs : List ResultVar} {d : D} (h : RetOk P rs d s) : retE P rs d .normal s := h
theorem re_ret {rs : List ResultVar} {d : D} (h : RetOk P rs d s) : retE P rs d .ret s := h
theorem ret_ok {rs : List ResultVar} {vs : List A} {ds : List D} {r : D} (h1 : resVs P s rs vs) (h2 : frzVs s.β vs = some ds) (h3 : SubD (resD ds) r) : RetOk P rs r s := ⟨vs, ds, h1, h2, h3⟩
theorem rv_nil : resVs P s [] [] := rfl
theorem rv_cons {r : ResultVar} {rs : List ResultVar} {v : A} {vs : List A} (h1 : resV P s r v) (h2 : resVs P s rs vs) : resVs P s (r :: rs) (v :: vs) := ⟨v, vs, rfl, h1, h2⟩
theorem rv_tmp {t : Nat} {v : A} (h : look t s.σ = some v) : resV P s (.tmp t) v := h
theorem rv_cell {t : Nat} {T : TypeId} {v : A} {i off : Nat} {T0 : TypeId} {cs : List A} {ty : TyI} (h1 : look t s.σ = some (.px i off)) (h2 : look i s.β = some (.var T0 cs)) (h3 : mkTy P T = some ty) (h4 : ty.row = false) (h5 : cs[off]? = some v) : resV P s (.cell t T) v := ⟨i, off, T0, cs, ty, h1, h2, h3, .inl ⟨h4, h5⟩⟩
theorem rv_row {t : Nat} {T : TypeId} {i off : Nat} {T0 : TypeId} {cs : List A} {ty : TyI} (h1 : look t s.σ = some (.px i off)) (h2 : look i s.β = some (.var T0 cs)) (h3 : mkTy P T = some ty) (h4 : ty.row = true) (h5 : off + ty.size ≤ cs.length) : resV P s (.cell t T) (.ag ((cs.drop off).take ty.size)) := ⟨i, off, T0, cs, ty, h1, h2, h3, .inr ⟨h4, h5, rfl⟩⟩
theorem forget_of (ren : List (Nat × Nat)) {σ' : Sl} {β' : Bx} (h1 : keepS (renOf ren) σ σ') (h2 : keepB (renOf ren) β β') (h3 : onceB (renOf ren) β' = true) (h4 : inBs β' σ') (h5 : inBb β' β') : Ent ⟨σ, β⟩ ⟨σ', β'⟩ := Ent.of_forget ren ⟨h1, h2, h3, h4, h5⟩
end
end Go.Proofs.YtfkkamkhjbfjmaaDoor
