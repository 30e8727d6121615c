/-
  The pure layer: what each operation does that reads or turns memory. No condition.
-/
import Derived.Test.YtfkkamkhjbfjmaaDoorPlOps
import Derived.Laws.OwnMore
import Derived.Maps.AppendAt
import Derived.OwnWalk
namespace Go.Proofs.YtfkkamkhjbfjmaaDoor
set_option linter.unusedSimpArgs false
set_option linter.unusedVariables false
open Go.RowKit

theorem repD_one {I : Nat → Prop} {w : World} {d : D} {u : Value} (h : RepD I w d u) (h1 : d.one = true) : u.oneCell' = true := by
  cases d with
  | sc v => obtain ⟨rfl, h⟩ := h; exact h
  | nl => cases h; rfl
  | sl sz es => obtain ⟨ad, c, xs, rfl, _⟩ := h; rfl
  | ag cs => cases h1
  | tu vs => cases h1
theorem repA_one {ρ : Nat → Value} {I : Nat → Prop} {w : World} {v : A} {u : Value} (h : RepA ρ I w v u) (h1 : v.one = true) : u.oneCell' = true := by
  cases v with
  | d x => exact repD_one (d := x) h h1
  | pe sz es i off => obtain ⟨_, xs, g, o, _, rfl, _⟩ := h; rfl
  | px id off => obtain ⟨g, _, rfl⟩ := h; rfl
  | pr id sz k off => obtain ⟨g, n, c, _, _, rfl⟩ := h; rfl
  | ow id n => obtain ⟨_, ad, c, rfl, _⟩ := h; rfl
  | sx id n c => obtain ⟨g, _, rfl⟩ := h; rfl
  | fn f a b => obtain ⟨us, vs, rfl, _⟩ := h; rfl
  | _ => cases h1
theorem repAs_get {ρ : Nat → Value} {I : Nat → Prop} {w : World} {o : Bool} : ∀ {ds : List A} {l : List Value} {i : Nat} {d : A}, RepAs ρ I w o ds l → ds[i]? = some d → ∃ u, l[i]? = some u ∧ RepA ρ I w d u ∧ (o = true → d.one = true)
  | d0 :: ds, _, 0, d, ⟨u, us, rfl, ho, hd, _⟩, h => by simp at h; subst h; exact ⟨u, rfl, hd, ho⟩
  | d0 :: ds, _, i + 1, d, ⟨u, us, rfl, ho, hd, hr⟩, h => by
    obtain ⟨x, h1, h2⟩ := repAs_get hr (by simpa using h)
    exact ⟨x, by simpa using h1, h2⟩
theorem repAs_len {ρ : Nat → Value} {I : Nat → Prop} {w : World} {o : Bool} : ∀ {ds : List A} {l : List Value}, RepAs ρ I w o ds l → l.length = ds.length
  | [], _, h => by cases h; rfl
  | d0 :: ds, _, ⟨u, us, rfl, ho, hd, hr⟩ => by simp [repAs_len hr]
theorem repAs_drop {ρ : Nat → Value} {I : Nat → Prop} {w : World} {o : Bool} : ∀ {ds : List A} {l : List Value} (n : Nat), RepAs ρ I w o ds l → RepAs ρ I w o (ds.drop n) (l.drop n)
  | [], _, n, h => by cases h; simp [RepAs]
  | d0 :: ds, _, 0, h => h
  | d0 :: ds, _, n + 1, ⟨u, us, rfl, ho, hd, hr⟩ => repAs_drop n hr
theorem repAs_take {ρ : Nat → Value} {I : Nat → Prop} {w : World} {o : Bool} : ∀ {ds : List A} {l : List Value} (n : Nat), RepAs ρ I w o ds l → RepAs ρ I w o (ds.take n) (l.take n)
  | [], _, n, h => by cases h; simp [RepAs]
  | d0 :: ds, _, 0, h => rfl
  | d0 :: ds, _, n + 1, ⟨u, us, rfl, ho, hd, hr⟩ => ⟨u, us.take n, rfl, ho, hd, repAs_take n hr⟩
theorem repAs_append {ρ : Nat → Value} {I : Nat → Prop} {w : World} {o : Bool} : ∀ {ds es : List A} {l m : List Value}, RepAs ρ I w o ds l → RepAs ρ I w o es m → RepAs ρ I w o (ds ++ es) (l ++ m)
  | [], _, _, _, h, h2 => by cases h; exact h2
  | d0 :: ds, es, _, m, ⟨u, us, rfl, ho, hd, hr⟩, h2 => ⟨u, us ++ m, rfl, ho, hd, repAs_append hr h2⟩
theorem repC_drop {I : Nat → Prop} {w : World} {o : Bool} : ∀ {ds : List D} {l : List Value} (n : Nat), RepC I w o ds l → RepC I w o (ds.drop n) (l.drop n)
  | [], _, n, h => by cases h; simp [RepC]
  | d0 :: ds, _, 0, h => h
  | d0 :: ds, _, n + 1, ⟨u, us, rfl, ho, hd, hr⟩ => repC_drop n hr
theorem repC_take {I : Nat → Prop} {w : World} {o : Bool} : ∀ {ds : List D} {l : List Value} (n : Nat), RepC I w o ds l → RepC I w o (ds.take n) (l.take n)
  | [], _, n, h => by cases h; simp [RepC]
  | d0 :: ds, _, 0, h => rfl
  | d0 :: ds, _, n + 1, ⟨u, us, rfl, ho, hd, hr⟩ => ⟨u, us.take n, rfl, ho, hd, repC_take n hr⟩
theorem repC_append {I : Nat → Prop} {w : World} {o : Bool} : ∀ {ds es : List D} {l m : List Value}, RepC I w o ds l → RepC I w o es m → RepC I w o (ds ++ es) (l ++ m)
  | [], _, _, _, h, h2 => by cases h; exact h2
  | d0 :: ds, es, _, m, ⟨u, us, rfl, ho, hd, hr⟩, h2 => ⟨u, us ++ m, rfl, ho, hd, repC_append hr h2⟩
theorem repAs_of_C {ρ : Nat → Value} {I : Nat → Prop} {w : World} {o : Bool} : ∀ {ds : List D} {l : List Value}, RepC I w o ds l → RepAs ρ I w o (ds.map .d) l
  | [], _, h => h
  | d0 :: ds, _, ⟨u, us, hl, ho, hd, hr⟩ => ⟨u, us, hl, ho, hd, repAs_of_C hr⟩
theorem repC_of_As {ρ : Nat → Value} {I : Nat → Prop} {w : World} {o : Bool} : ∀ {ds : List D} {l : List Value}, RepAs ρ I w o (ds.map .d) l → RepC I w o ds l
  | [], _, h => h
  | d0 :: ds, _, ⟨u, us, hl, ho, hd, hr⟩ => ⟨u, us, hl, ho, hd, repC_of_As hr⟩
theorem repC_one {I : Nat → Prop} {w : World} : ∀ {ds : List D} {l : List Value}, RepC I w true ds l → ∀ u ∈ l, u.oneCell' = true
  | [], _, h, u, hu => by cases h; cases hu
  | d0 :: ds, _, ⟨u0, us, rfl, ho, hd, hr⟩, u, hu => by
    rcases List.mem_cons.1 hu with rfl | hu
    · exact repD_one hd (ho rfl)
    · exact repC_one hr u hu
theorem repAs_one {ρ : Nat → Value} {I : Nat → Prop} {w : World} : ∀ {ds : List A} {l : List Value}, RepAs ρ I w true ds l → ∀ u ∈ l, u.oneCell' = true
  | [], _, h, u, hu => by cases h; cases hu
  | d0 :: ds, _, ⟨u0, us, rfl, ho, hd, hr⟩, u, hu => by
    rcases List.mem_cons.1 hu with rfl | hu
    · exact repA_one hd (ho rfl)
    · exact repAs_one hr u hu
theorem repR_one {I : Nat → Prop} {w : World} {sz : Nat} : ∀ {es : List (List D)} {l : List Value}, RepR I w sz es l → ∀ u ∈ l, u.oneCell' = true
  | [], _, h, u, hu => by cases h; cases hu
  | e0 :: es, _, ⟨us, us', rfl, hl, hc, hr⟩, u, hu => by
    rcases List.mem_append.1 hu with hu | hu
    · exact repC_one hc u hu
    · exact repR_one hr u hu
theorem repR_len {I : Nat → Prop} {w : World} {sz : Nat} : ∀ {es : List (List D)} {l : List Value}, RepR I w sz es l → l.length = es.length * sz
  | [], _, h => by cases h; simp
  | e0 :: es, _, ⟨us, us', rfl, hl, hc, hr⟩ => by
    rw [List.length_append, repC_len hc, repR_len hr, hl, List.length_cons, Nat.add_mul]
    omega
theorem repR_get {I : Nat → Prop} {w : World} {sz : Nat} : ∀ {es : List (List D)} {l : List Value} {i : Nat} {e : List D}, RepR I w sz es l → es[i]? = some e → ∃ us, RepC I w true e us ∧ e.length = sz ∧ us.length = sz ∧ (l.drop (i * sz)).take sz = us
  | e0 :: es, _, 0, e, ⟨us, us', rfl, hl, hc, hr⟩, h => by
    simp only [List.getElem?_cons_zero, Option.some.injEq] at h
    subst h
    have hlen := repC_len hc
    refine ⟨us, hc, hl, by omega, ?_⟩
    rw [Nat.zero_mul, List.drop_zero, List.take_append_of_le_length (by omega), List.take_of_length_le (by omega)]
  | e0 :: es, _, i + 1, e, ⟨us, us', rfl, hl, hc, hr⟩, h => by
    obtain ⟨vs, h1, h2, h3, h4⟩ := repR_get hr (by simpa using h)
    refine ⟨vs, h1, h2, h3, ?_⟩
    have hlen := repC_len hc
    rw [← h4, Nat.add_mul, Nat.one_mul, List.drop_append, List.drop_eq_nil_of_le (by omega), List.nil_append, show i * sz + sz - us.length = i * sz by omega]
theorem repR_append {I : Nat → Prop} {w : World} {sz : Nat} : ∀ {es fs : List (List D)} {l m : List Value}, RepR I w sz es l → RepR I w sz fs m → RepR I w sz (es ++ fs) (l ++ m)
  | [], _, _, _, h, h2 => by cases h; exact h2
  | e0 :: es, fs, _, m, ⟨us, us', rfl, hl, hc, hr⟩, h2 => ⟨us, us' ++ m, by simp, hl, hc, repR_append hr h2⟩
theorem repR_drop {I : Nat → Prop} {w : World} {sz : Nat} : ∀ {es : List (List D)} {l : List Value} (n : Nat), RepR I w sz es l → RepR I w sz (es.drop n) (l.drop (n * sz))
  | [], _, n, h => by cases h; simp [RepR]
  | e0 :: es, _, 0, h => by simpa using h
  | e0 :: es, _, n + 1, ⟨us, us', rfl, hl, hc, hr⟩ => by
    have hlen := repC_len hc
    have := repR_drop n hr
    have hd : us.drop (n * sz + sz) = [] := List.drop_eq_nil_of_le (by have := Nat.le_add_left sz (n * sz); omega)
    rw [List.drop_succ_cons, Nat.add_mul, Nat.one_mul, List.drop_append, hd, List.nil_append, show n * sz + sz - us.length = n * sz by omega]
    exact this
theorem repR_take {I : Nat → Prop} {w : World} {sz : Nat} : ∀ {es : List (List D)} {l : List Value} (n : Nat), RepR I w sz es l → RepR I w sz (es.take n) (l.take (n * sz))
  | [], _, n, h => by cases h; simp [RepR]
  | e0 :: es, _, 0, h => by simp [RepR]
  | e0 :: es, _, n + 1, ⟨us, us', rfl, hl, hc, hr⟩ => by
    have hlen := repC_len hc
    refine ⟨us, us'.take (n * sz), ?_, hl, hc, repR_take n hr⟩
    rw [Nat.add_mul, Nat.one_mul, List.take_append, List.take_of_length_le (by omega), show n * sz + sz - us.length = n * sz by omega]
def allD : List A → Option (List D)
  | [] => some []
  | .d x :: r => match allD r with
    | some ds => some (x :: ds)
    | none => none
  | _ :: _ => none
theorem allD_map : ∀ {l : List A} {ds : List D}, allD l = some ds → l = ds.map .d
  | [], ds, h => by simp [allD] at h; subst h; rfl
  | .d x :: r, ds, h => by
    unfold allD at h
    split at h
    · rename_i ds' hr
      simp only [Option.some.injEq] at h
      subst h
      rw [allD_map hr]; rfl
    · cases h
  | .ag _ :: _, _, h => by cases h
  | .tu _ :: _, _, h => by cases h
  | .pe .. :: _, _, h => by cases h
  | .px .. :: _, _, h => by cases h
  | .pr .. :: _, _, h => by cases h
  | .ow .. :: _, _, h => by cases h
  | .fn .. :: _, _, h => by cases h
  | .gd .. :: _, _, h => by cases h
  | .un :: _, _, h => by cases h
theorem map_get {α β : Type} {f : α → β} {l : List α} {i : Nat} {g : α} (h : l[i]? = some g) : (l.map f)[i]? = some (f g) := by rw [List.getElem?_map, h]; rfl

/-! ### reading a variable -/
section
variable {P : Program}
theorem run_isAgg {T : TypeId} {d : TypeDesc} (h : P.underlying T = some d) (w : World) : (isAgg T).run P w = .ok d.isRow w := by
  unfold isAgg
  rw [Sem.run_bind, run_underlying h w]
  cases d <;> simp
theorem run_loadVar_one {T : TypeId} {t : TyI} (ht : mkTy P T = some t) (hr : t.row = false) {w : World} {p : Addr} {u : Value} (h : w.cell? p = some u) : (loadVar T p).run P w = .ok u w := by
  obtain ⟨i, d, z, _, hd, _, _, _, hrow, _⟩ := mkTy_spec ht
  rw [hr] at hrow
  simp [loadVar, Sem.run_bind, run_isAgg hd, ← hrow, h]
theorem run_loadVar_row' {T : TypeId} {t : TyI} (ht : mkTy P T = some t) (hr : t.row = true) {w : World} {g o : Nat} {cs : List Value} (hl : cs.length = t.size) (h : ∀ (j : Nat) (u : Value), cs[j]? = some u → w.cell? ⟨g, o + j, none⟩ = some u) : (loadVar T ⟨g, o, none⟩).run P w = .ok (.agg cs.toArray) w := by
  obtain ⟨i, d, z, hi, hd, _, hsz, _, hrow, _⟩ := mkTy_spec ht
  exact run_loadVar_mid w g o T cs d h hd (by rw [← hrow]; exact hr) (by rw [hi]; simp; omega)
variable {dst : Option Nat} {ty : TypeId} {e : Operand → A} {β : Bx} {v : A}
theorem does_load {T : TypeId} {x : Operand} {rd : List Nat} (h : ∀ (C : Ctx) (γ : Bx), Agreeing β γ rd → ∀ (ρ : Nat → Value) (I : Nat → Prop) (w : World), Mem C γ ρ I w → ∀ p, RepA ρ I w (e x) p → (e x).inB γ →
    ∃ ad vv, p = .pointer (some ad) ∧ (loadVar T ad).run P w = .ok vv w ∧ v.inB γ ∧ RepA ρ I w v vv) : Does P dst (.load T x) ty e β v [] rd :=
  Does.of_run fun C γ hag ρ I w hm a hops o ho _ => by
    obtain ⟨h1, h2⟩ := hops x (by simp [Op.operands])
    obtain ⟨ad, vv, hp, hl, h3, h4⟩ := h C γ hag ρ I w hm _ h2 h1
    refine ⟨vv, ?_, h3, h4⟩
    simp [execOp, ho, hp, Instr.loadAt, Instr.sureAddr, Sem.run_bind, hl]
theorem var_cell {C : Ctx} {γ : Bx} {ρ : Nat → Value} {I : Nat → Prop} {w : World} (hm : Mem C γ ρ I w) {id : Nat} {T0 : TypeId} {cs : List A} (hl : look id γ = some (.var T0 cs)) :
    ∃ g us, ρ id = .pointer (some ⟨g, 0, none⟩) ∧ w.heap[g]? = some (.cells us T0 (0, 0)) ∧ RepAs ρ I w true cs us.toList ∧ A.insB γ cs := by
  obtain ⟨g, us, h1, h2, h3⟩ := hm.box id _ hl
  exact ⟨g, us, h1, h2, h3, hm.clo id _ hl⟩
theorem cell_in {w : World} {g : Nat} {us : Array Value} {T : TypeId} {fz : Nat × Nat} (h : w.heap[g]? = some (.cells us T fz)) (i : Nat) : w.cell? ⟨g, i, none⟩ = us[i]? := by simp [World.cell?, h]
/-- One cell of a variable. -/
theorem does_load_var {T T0 : TypeId} {t : TyI} {x : Operand} {id off : Nat} {cs : List A} (ht : mkTy P T = some t) (hr : t.row = false) (hx : e x = .px id off) (hl : look id β = some (.var T0 cs)) (hv : cs[off]? = some v) : Does P dst (.load T x) ty e β v [] [id] :=
  does_load fun C γ hag ρ I w hm p hp hb => by
    rw [hx] at hp
    obtain ⟨g, hg, rfl⟩ := hp
    obtain ⟨g', us, h1, h2, h3, h4⟩ := var_cell hm ((hag id (by simp)).trans hl)
    rw [hg] at h1
    injection h1 with h1; injection h1 with h1; injection h1 with h1
    subst h1
    obtain ⟨u, hu, hrep, _⟩ := repAs_get h3 hv
    refine ⟨_, u, rfl, run_loadVar_one ht hr ?_, A.insB_mem h4 v (List.mem_of_getElem? hv), hrep⟩
    rw [cell_in h2]
    simpa using hu
/-- A struct or an array out of a variable. -/
theorem does_load_row {T T0 : TypeId} {t : TyI} {x : Operand} {id off : Nat} {cs : List A} {ds : List D} (ht : mkTy P T = some t) (hr : t.row = true) (hx : e x = .px id off) (hl : look id β = some (.var T0 cs))
    (hlen : off + t.size ≤ cs.length) (hv : allD ((cs.drop off).take t.size) = some ds) : Does P dst (.load T x) ty e β (.d (.ag ds)) [] [id] :=
  does_load fun C γ hag ρ I w hm p hp hb => by
    rw [hx] at hp
    obtain ⟨g, hg, rfl⟩ := hp
    obtain ⟨g', us, h1, h2, h3, h4⟩ := var_cell hm ((hag id (by simp)).trans hl)
    rw [hg] at h1
    injection h1 with h1; injection h1 with h1; injection h1 with h1
    subst h1
    have h5 := repAs_take t.size (repAs_drop off h3)
    rw [allD_map hv] at h5
    have hus := repAs_len h3
    refine ⟨_, _, rfl, run_loadVar_row' (cs := (us.toList.drop off).take t.size) ht hr ?_ (fun j u hu => ?_), trivial, _, rfl, repC_of_As h5⟩
    · rw [List.length_take, List.length_drop]; omega
    · rw [List.getElem?_take] at hu
      split at hu
      · rw [List.getElem?_drop] at hu
        rw [cell_in h2]
        simpa using hu
      · cases hu
/-- One cell of an element of a slice. -/
theorem does_load_elem {T : TypeId} {t : TyI} {x : Operand} {sz i off : Nat} {es : List (List D)} {el : List D} {d : D} (ht : mkTy P T = some t) (hr : t.row = false) (hx : e x = .pe sz es i off) (he : es[i]? = some el) (hd : el[off]? = some d) : Does P dst (.load T x) ty e β (.d d) [] [] :=
  does_load fun C γ hag ρ I w hm p hp hb => by
    rw [hx] at hp
    obtain ⟨_, xs, g, o, hR, rfl, _, hc⟩ := hp
    obtain ⟨us, h1, h2, h3, h4⟩ := repR_get hR he
    obtain ⟨u, hu, hrep, _⟩ := repC_get h1 hd
    refine ⟨_, u, rfl, run_loadVar_one ht hr ?_, trivial, hrep⟩
    have hoff : off < sz := by rw [← h2]; exact (List.getElem?_eq_some_iff.1 hd).1
    refine hc (i * sz + off) u ?_
    rw [← h4, List.getElem?_take, if_pos hoff, List.getElem?_drop] at hu
    exact hu
theorem does_load_elem_row {T : TypeId} {t : TyI} {x : Operand} {sz i off : Nat} {es : List (List D)} {el : List D} (ht : mkTy P T = some t) (hr : t.row = true) (hx : e x = .pe sz es i off) (he : es[i]? = some el) (hlen : off + t.size ≤ el.length) :
    Does P dst (.load T x) ty e β (.d (.ag ((el.drop off).take t.size))) [] [] :=
  does_load fun C γ hag ρ I w hm p hp hb => by
    rw [hx] at hp
    obtain ⟨_, xs, g, o, hR, rfl, _, hc⟩ := hp
    obtain ⟨us, h1, h2, h3, h4⟩ := repR_get hR he
    have h5 := repC_take t.size (repC_drop off h1)
    refine ⟨_, _, rfl, run_loadVar_row' (cs := (us.drop off).take t.size) ht hr ?_ (fun j u hu => ?_), trivial, _, rfl, h5⟩
    · rw [List.length_take, List.length_drop]; omega
    · rw [List.getElem?_take] at hu
      split at hu
      · rw [List.getElem?_drop, ← h4, List.getElem?_take] at hu
        split at hu
        · rw [List.getElem?_drop] at hu
          have := hc _ u hu
          rwa [show o + (i * sz + off) + j = o + (i * sz + (off + j)) by omega]
        · cases hu
      · cases hu
theorem does_load_elem_whole {T : TypeId} {t : TyI} {x : Operand} {sz i : Nat} {es : List (List D)} {el : List D} (ht : mkTy P T = some t) (hr : t.row = true) (hx : e x = .pe sz es i 0) (he : es[i]? = some el) (hlen : el.length = t.size) :
    Does P dst (.load T x) ty e β (.d (.ag el)) [] [] := by
  have := does_load_elem_row (P := P) (dst := dst) (ty := ty) (β := β) ht hr hx he (by omega)
  rwa [List.drop_zero, List.take_of_length_le (by omega)] at this
/-- Out of an own row. -/
theorem row_cells {C : Ctx} {γ : Bx} {ρ : Nat → Value} {I : Nat → Prop} {w : World} (hm : Mem C γ ρ I w) {id : Nat} {E : TypeId} {sz : Nat} {es : List (List D)} (hl : look id γ = some (.row E sz es)) {g n c : Nat} (hr : ρ id = .slice (some ⟨g, 0, none⟩) n c) :
    ∃ xs, RepR I w sz es xs ∧ n = es.length ∧ ∀ (j : Nat) (u : Value), xs[j]? = some u → w.cell? ⟨g, j, none⟩ = some u := by
  obtain ⟨xs, h1, h2⟩ := hm.box id _ hl
  have hn : n = es.length := by
    rcases h1.2 with ⟨h, _⟩ | ⟨g', cap, cur, h, _⟩
    · rw [hr] at h; cases h
    · rw [hr] at h; injection h
  refine ⟨xs, h2, hn, fun j u hu => ?_⟩
  have := h1.cells (g := g) (by rw [hr]; rfl) j u hu
  rwa [show (⟨g, 0, none⟩ : Addr).add j = ⟨g, j, none⟩ by unfold Addr.add; split <;> simp_all] at this
theorem frz_cells {C : Ctx} {γ : Bx} {ρ : Nat → Value} {I : Nat → Prop} {w : World} (hm : Mem C γ ρ I w) {id : Nat} {sz : Nat} {es : List (List D)} (hl : look id γ = some (.frz sz es)) {g n c : Nat} (hr : ρ id = .slice (some ⟨g, 0, none⟩) n c) (hn : 0 < n) :
    ∃ xs, RepR I w sz es xs ∧ n = es.length ∧ ∀ (j : Nat) (u : Value), xs[j]? = some u → w.cell? ⟨g, j, none⟩ = some u := by
  obtain ⟨ad, c', xs, h1, _, h2, h3⟩ := hm.box id _ hl
  rw [hr] at h1
  injection h1 with h1 h4 h5
  subst h4
  obtain ⟨g', off, e1, _, hc⟩ := h3 hn
  rw [← h1] at e1
  injection e1 with e1
  injection e1 with e1 e2
  subst e1 e2
  exact ⟨xs, h2, rfl, fun j u hu => by have := hc j u hu; rwa [Nat.zero_add] at this⟩
/-- The rows of a box: its own, or frozen. -/
def rowsOf (β : Bx) (id : Nat) : Option (Nat × List (List D)) := match look id β with
  | some (.row _ sz es) => some (sz, es)
  | some (.frz sz es) => some (sz, es)
  | _ => none
theorem rows_cells {C : Ctx} {γ : Bx} {ρ : Nat → Value} {I : Nat → Prop} {w : World} (hm : Mem C γ ρ I w) {id : Nat} {sz : Nat} {es : List (List D)} (hl : rowsOf γ id = some (sz, es)) {g n c : Nat} (hr : ρ id = .slice (some ⟨g, 0, none⟩) n c) (hn : 0 < n) :
    ∃ xs, RepR I w sz es xs ∧ n = es.length ∧ ∀ (j : Nat) (u : Value), xs[j]? = some u → w.cell? ⟨g, j, none⟩ = some u := by
  unfold rowsOf at hl
  split at hl
  · rename_i h; injection hl with hl; injection hl with h1 h2; subst h1 h2; exact row_cells hm h hr
  · rename_i h; injection hl with hl; injection hl with h1 h2; subst h1 h2; exact frz_cells hm h hr hn
  · cases hl
theorem rowsOf_agree {γ : Bx} {id : Nat} (h : look id γ = look id β) : rowsOf γ id = rowsOf β id := by unfold rowsOf; rw [h]
theorem does_load_own {T : TypeId} {t : TyI} {x : Operand} {id sz i off : Nat} {es : List (List D)} {el : List D} {d : D} (ht : mkTy P T = some t) (hr : t.row = false) (hx : e x = .pr id sz i off) (hl : rowsOf β id = some (sz, es)) (he : es[i]? = some el) (hd : el[off]? = some d) : Does P dst (.load T x) ty e β (.d d) [] [id] :=
  does_load fun C γ hag ρ I w hm p hp hb => by
    rw [hx] at hp
    obtain ⟨g, n, c, hρ, hk, rfl⟩ := hp
    obtain ⟨xs, hR, _, hc⟩ := rows_cells hm ((rowsOf_agree (hag id (by simp))).trans hl) hρ (by omega)
    obtain ⟨us, h1, h2, h3, h4⟩ := repR_get hR he
    obtain ⟨u, hu, hrep, _⟩ := repC_get h1 hd
    refine ⟨_, u, rfl, run_loadVar_one ht hr ?_, trivial, hrep⟩
    have hoff : off < sz := by rw [← h2]; exact (List.getElem?_eq_some_iff.1 hd).1
    refine hc (i * sz + off) u ?_
    rw [← h4, List.getElem?_take, if_pos hoff, List.getElem?_drop] at hu
    exact hu
theorem does_load_own_row {T : TypeId} {t : TyI} {x : Operand} {id sz i off : Nat} {es : List (List D)} {el : List D} (ht : mkTy P T = some t) (hr : t.row = true) (hx : e x = .pr id sz i off) (hl : rowsOf β id = some (sz, es)) (he : es[i]? = some el) (hlen : off + t.size ≤ el.length) :
    Does P dst (.load T x) ty e β (.d (.ag ((el.drop off).take t.size))) [] [id] :=
  does_load fun C γ hag ρ I w hm p hp hb => by
    rw [hx] at hp
    obtain ⟨g, n, c, hρ, hk, rfl⟩ := hp
    obtain ⟨xs, hR, _, hc⟩ := rows_cells hm ((rowsOf_agree (hag id (by simp))).trans hl) hρ (by omega)
    obtain ⟨us, h1, h2, h3, h4⟩ := repR_get hR he
    have h5 := repC_take t.size (repC_drop off h1)
    refine ⟨_, _, rfl, run_loadVar_row' (cs := (us.drop off).take t.size) ht hr ?_ (fun j u hu => ?_), trivial, _, rfl, h5⟩
    · rw [List.length_take, List.length_drop]; omega
    · rw [List.getElem?_take] at hu
      split at hu
      · rw [List.getElem?_drop, ← h4, List.getElem?_take] at hu
        split at hu
        · rw [List.getElem?_drop] at hu
          have := hc _ u hu
          rwa [show i * sz + off + j = i * sz + (off + j) by omega]
        · cases hu
      · cases hu
theorem does_load_own_whole {T : TypeId} {t : TyI} {x : Operand} {id sz i : Nat} {es : List (List D)} {el : List D} (ht : mkTy P T = some t) (hr : t.row = true) (hx : e x = .pr id sz i 0) (hl : rowsOf β id = some (sz, es)) (he : es[i]? = some el) (hlen : el.length = t.size) :
    Does P dst (.load T x) ty e β (.d (.ag el)) [] [id] := by
  have := does_load_own_row (P := P) (dst := dst) (ty := ty) (β := β) ht hr hx hl he (by omega)
  rwa [List.drop_zero, List.take_of_length_le (by omega)] at this

/-! ### addresses -/
theorem cellsOf_info {T : TypeId} (h : P.cellsOf T ≠ 0) : ∃ i, P.info? T = some i ∧ i.size = P.cellsOf T := by
  unfold Program.cellsOf at h ⊢
  cases hi : P.info? T with
  | none => rw [hi] at h; simp at h
  | some i => exact ⟨i, rfl, by simp⟩
theorem run_sizeOf {T : TypeId} (h : P.cellsOf T ≠ 0) (w : World) : (sizeOf T).run P w = .ok (P.cellsOf T) w := by
  obtain ⟨i, hi, hs⟩ := cellsOf_info h
  simp [sizeOf, typeInfo, hi, Sem.run_bind, hs]
theorem sizeOf_mkTy {T : TypeId} {t : TyI} (h : mkTy P T = some t) (w : World) : (sizeOf T).run P w = .ok t.size w := by
  obtain ⟨i, d, z, hi, _, _, hsz, _⟩ := mkTy_spec h
  simp [sizeOf, typeInfo, hi, Sem.run_bind, hsz]
theorem run_fieldAt {T : TypeId} {t : TyI} {fs : List (Nat × Nat × Bool)} {f off size : Nat} {row : Bool} (ht : mkTy P T = some t) (hk : t.kind = .struct fs) (hf : fs[f]? = some (off, size, row)) (hs : size ≠ 0) (g o : Nat) (w : World) :
    (Instr.fieldAt T (.pointer (some ⟨g, o, none⟩)) f).run P w = .ok (.pointer (some ⟨g, o + off, none⟩)) w := by
  obtain ⟨i, d, z, _, hd, _, _, _, _, _, hkd⟩ := mkTy_spec ht
  obtain ⟨gs, rfl, rfl⟩ := kind_struct (hkd.symm.trans hk)
  rw [List.getElem?_map] at hf
  cases hg : gs.toList[f]? with
  | none => rw [hg] at hf; simp at hf
  | some fd =>
    rw [hg] at hf
    simp only [Option.map_some, Option.some.injEq, Prod.mk.injEq] at hf
    obtain ⟨rfl, h2, rfl⟩ := hf
    have hg2 : gs[f]? = some fd := by simpa using hg
    have hne : P.cellsOf fd.type ≠ 0 := by rw [h2]; exact hs
    have hadd : (⟨g, o, none⟩ : Addr).add fd.offset = ⟨g, o + fd.offset, none⟩ := Addr.add_mid g o fd.offset
    simp [Instr.fieldAt, Sem.run_bind, run_underlying hd, hg2, Instr.sureAddr, fieldPlace, run_sizeOf hne, hne, hadd]
def addrAdd (k : Nat) : A → Option A
  | .pe sz es i off => some (.pe sz es i (off + k))
  | .px id off => some (.px id (off + k))
  | .pr id sz i off => some (.pr id sz i (off + k))
  | _ => none
theorem addrAdd_rep {ρ : Nat → Value} {I : Nat → Prop} {w : World} {γ : Bx} {x y : A} {k : Nat} {p : Value} (h : addrAdd k x = some y) (hr : RepA ρ I w x p) (hb : x.inB γ) :
    ∃ g o, p = .pointer (some ⟨g, o, none⟩) ∧ y.inB γ ∧ RepA ρ I w y (.pointer (some ⟨g, o + k, none⟩)) := by
  cases x with
  | pe sz es i off =>
    injection h with h; subst h
    obtain ⟨h1, xs, g, o, h2, rfl, h3, h4⟩ := hr
    exact ⟨g, _, rfl, trivial, h1, xs, g, o, h2, by rw [Nat.add_assoc, Nat.add_assoc], h3, h4⟩
  | px id off =>
    injection h with h; subst h
    obtain ⟨g, h1, rfl⟩ := hr
    exact ⟨g, _, rfl, hb, g, h1, rfl⟩
  | pr id sz i off =>
    injection h with h; subst h
    obtain ⟨g, n, c, h1, h2, rfl⟩ := hr
    exact ⟨g, _, rfl, hb, g, n, c, h1, h2, by rw [Nat.add_assoc]⟩
  | _ => cases h
theorem does_fieldAddr {T : TypeId} {t : TyI} {fs : List (Nat × Nat × Bool)} {x : Operand} {f off size : Nat} {row : Bool} {y : A} (ht : mkTy P T = some t) (hk : t.kind = .struct fs) (hf : fs[f]? = some (off, size, row)) (hs : size ≠ 0) (hx : addrAdd off (e x) = some y) :
    Does P dst (.fieldAddr T x f) ty e β y [] [] :=
  Does.of_run fun C γ _ ρ I w _ a hops o ho _ => by
    obtain ⟨h1, h2⟩ := hops x (by simp [Op.operands])
    obtain ⟨g, o', hp, h3, h4⟩ := addrAdd_rep hx h2 h1
    refine ⟨_, ?_, h3, h4⟩
    simp only [execOp, ho, hp, Sem.run_bind, run_fieldAt ht hk hf hs]
    rfl
theorem run_indexAt_slice {T el : TypeId} {t te : TyI} (ht : mkTy P T = some t) (hk : t.kind = .slice el) (hte : mkTy P el = some te) {g o n c i : Nat} {k : IntKind} (hi : i < n) (w : World) :
    (Instr.indexAt T (.slice (some ⟨g, o, none⟩) n c) (.int k (i : Int))).run P w = .ok (.pointer (some ⟨g, o + i * te.size, none⟩)) w := by
  obtain ⟨inf, d, z, _, hd, _, _, _, _, _, hkd⟩ := mkTy_spec ht
  have hd2 : P.underlying T = some (.slice el) := by rw [hd, kind_slice (hkd.symm.trans hk)]
  have hadd : (⟨g, o, none⟩ : Addr).add (i * te.size) = ⟨g, o + i * te.size, none⟩ := Addr.add_mid g o _
  have hin : (0 : Int) ≤ i ∧ (i : Int) < n := ⟨by omega, by omega⟩
  simp [Instr.indexAt, asIntOf, Sem.run_bind, run_underlying hd2, hin, sizeOf_mkTy hte, hadd, hi]
theorem does_index_sl {T el : TypeId} {t te : TyI} {x y : Operand} {sz i : Nat} {k : IntKind} {n : Int} {es : List (List D)} (ht : mkTy P T = some t) (hk : t.kind = .slice el) (hte : mkTy P el = some te) (hx : e x = .d (.sl sz es)) (hy : e y = .d (.sc (.int k n))) (hn : n = (i : Nat)) (hsz : te.size = sz) (hi : i < es.length) :
    Does P dst (.indexAddr T x y) ty e β (.pe sz es i 0) [] [] :=
  Does.of_run fun C γ _ ρ I w _ a hops o ho _ => by
    have h1 := (hops x (by simp [Op.operands])).2
    have h2 := (hops y (by simp [Op.operands])).2
    rw [hx] at h1
    rw [hy] at h2
    have h2 := repA_sc h2
    subst hn
    obtain ⟨ad, c, xs, h1, hc, hR, hg⟩ := h1
    obtain ⟨g, off, rfl, hI, hcell⟩ := hg (by omega)
    refine ⟨.pointer (some ⟨g, off + i * te.size, none⟩), ?_, trivial, hi, xs, g, off, hR, by rw [hsz, Nat.add_zero], hI, hcell⟩
    simp only [execOp, ho, h1, h2, Sem.run_bind, run_indexAt_slice ht hk hte hi]
    rfl
theorem does_index_own {T el : TypeId} {t te : TyI} {x y : Operand} {id m i : Nat} {k : IntKind} {n : Int} (ht : mkTy P T = some t) (hk : t.kind = .slice el) (hte : mkTy P el = some te) (hx : e x = .ow id m) (hy : e y = .d (.sc (.int k n))) (hn : n = (i : Nat)) (hi : i < m) :
    Does P dst (.indexAddr T x y) ty e β (.pr id te.size i 0) [] [] :=
  Does.of_run fun C γ _ ρ I w _ a hops o ho _ => by
    have h1 := hops x (by simp [Op.operands])
    have h2 := (hops y (by simp [Op.operands])).2
    rw [hx] at h1
    rw [hy] at h2
    have h2 := repA_sc h2
    subst hn
    obtain ⟨hb, h1, ad, c, h3, hc, hg⟩ := h1
    obtain ⟨g, rfl⟩ := hg (by omega)
    refine ⟨.pointer (some ⟨g, 0 + i * te.size, none⟩), ?_, hb, g, m, c, h1.symm.trans h3, hi, by rw [Nat.zero_add, Nat.add_zero]⟩
    simp only [execOp, ho, h3, h2, Sem.run_bind, run_indexAt_slice ht hk hte hi]
    rfl
theorem does_index_arr {T el : TypeId} {t : TyI} {x y : Operand} {len esz i : Nat} {er : Bool} {k : IntKind} {n : Int} {r : A} (ht : mkTy P T = some t) (hk : t.kind = .array len el esz er) (hy : e y = .d (.sc (.int k n))) (hn : n = (i : Nat)) (hi : i < len) (hs : esz ≠ 0) (hx : addrAdd (i * esz) (e x) = some r) :
    Does P dst (.indexAddr T x y) ty e β r [] [] :=
  Does.of_run fun C γ _ ρ I w _ a hops o ho _ => by
    obtain ⟨h1, h2⟩ := hops x (by simp [Op.operands])
    obtain ⟨g, o', hp, h3, h4⟩ := addrAdd_rep hx h2 h1
    have h5 := (hops y (by simp [Op.operands])).2
    rw [hy] at h5
    have h5 := repA_sc h5
    subst hn
    obtain ⟨inf, d, z, _, hd, _, _, _, _, _, hkd⟩ := mkTy_spec ht
    obtain ⟨rfl, rfl, _⟩ := kind_array (hkd.symm.trans hk)
    refine ⟨_, ?_, h3, h4⟩
    have hadd : (⟨g, o', none⟩ : Addr).add (i * P.cellsOf el) = ⟨g, o' + i * P.cellsOf el, none⟩ := Addr.add_mid g o' _
    have hin : (0 : Int) ≤ i ∧ (i : Int) < len := ⟨by omega, by omega⟩
    simp [execOp, ho, hp, h5, Instr.indexAt, asIntOf, Sem.run_bind, run_underlying hd, Instr.sureAddr, hin, run_sizeOf hs, hadd, hi]
theorem does_nilCheck {x : Operand} {y : A} (hx : addrAdd 0 (e x) = some y) : Does P dst (.nilCheck x) ty e β y [] [] :=
  Does.of_run fun C γ _ ρ I w _ a hops o ho _ => by
    obtain ⟨h1, h2⟩ := hops x (by simp [Op.operands])
    obtain ⟨g, o', hp, h3, h4⟩ := addrAdd_rep hx h2 h1
    refine ⟨_, ?_, h3, h4⟩
    simp [execOp, ho, hp]
end
end Go.Proofs.YtfkkamkhjbfjmaaDoor
