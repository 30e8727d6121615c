/-
  The pure layer: a function that defers one closure, which catches its panic. No condition.
-/
import Derived.Test.YtlpnnnmdkglkcaaDoorZPlPan
set_option linter.unusedSimpArgs false
set_option linter.unusedVariables false
namespace Go.Proofs.YtlpnnnmdkglkcaaDoor
open Go.RowKit

def Catches (P : Program) (g : FuncId) (al : List A) (V V' : Bx) (v : Value) : Prop := ∀ (ρ : Nat → Value) (I : Nat → Prop) (w : World) (vs : Array Value), Mem (qDA (V ++ []) ρ I w) (V ++ []) ρ I w → A.insB (V ++ []) al → qBf ρ I w false al vs.toList →
  CallsD P g vs (.panicking [{ v := v, recovered := false }]) w fun e u' w' => (∃ x, e = .returned x) ∧ settle u' = .returning ∧ ∃ ρ' I', (∀ p ∈ V', ρ' p.1 = ρ p.1) ∧ Mem (qDA (V ++ []) ρ I w) (V' ++ []) ρ' I' w'
def RecR (P : Program) (c0 : Code) (n t7 t : Nat) : Prop := ∀ (c₀ : Frame) (cs : List Frame) (v : Value) (Q : Exit → Act → List Frame → World → Prop) (a : Act) (w : World), c₀.mode = .panicking [{ v := v, recovered := false }] → a.tmps.size = n →
  Q .normal { a with tmps := (a.tmps.setIfInBounds t7 v).setIfInBounds t v } ({ c₀ with mode := .panicking [{ v := v, recovered := true }] } :: cs) w → c0.wpS P Q a (c₀ :: cs) w
def catE (al : List A) (V' : Bx) : Exit → St → Prop
  | .normal, s => ∃ l, Forget l s ⟨keptS 0 al, V'⟩
  | .ret, s => ∃ l, Forget l s ⟨keptS 0 al, V'⟩
  | _, _ => False
section
variable {P : Program}
theorem catches_of_aw {g : FuncId} {fn : Func} {c0 X : Code} {al : List A} {V V' : Bx} {T : TypeId} {u : Value} {t7 t : Nat} (hf : P.funcs[g]? = some fn) (hb : fn.body = some (.seq c0 X)) (hmx : P.follows .mixedOrders = true) (hok : qBP (keptK al) fn.ntmps X = true) (hds : al.length ≤ fn.ntmps) (hrs : fn.results = #[])
    (hV : V'.all (fun p => hasPx p.1 al) = true) (h0 : RecR P c0 fn.ntmps t7 t) (ht7 : al.length ≤ t7) (ht : al.length ≤ t) (htn : t < fn.ntmps) (hX : AW P X (catE al V') ⟨(t, .d (.sc (.iface T u))) :: argA 0 al, V⟩) : Catches P g al V V' (.iface T u) := by
  intro ρ I w vs hm hin hr
  rw [List.append_nil] at hm hin ⊢
  refine callsD_of_wpS hf hb fun c₀ cs hu => ?_
  have hvl := qBO hr
  rw [Array.length_toList] at hvl
  have hget : ∀ {i : Nat} {v : A}, al[i]? = some v → ∃ u, vs[i]? = some u ∧ RepA ρ I w v u ∧ (vs ++ Array.replicate (fn.ntmps - vs.size) undef).getD i undef = u ∧ i < vs.size := fun {i v} hi => by
    obtain ⟨u, h3, h4, _⟩ := qB5 hr hi
    have hlt : i < vs.size := by rw [← Array.length_toList]; exact (List.getElem?_eq_some_iff.1 h3).1
    have h5 : vs[i]? = some u := by simpa using h3
    refine ⟨u, h5, h4, ?_, hlt⟩
    rw [Array.getD_eq_getD_getElem?, Array.getElem?_append_left hlt, h5]; rfl
  have hsz : (vs ++ Array.replicate (fn.ntmps - vs.size) undef).size = fn.ntmps := by simp; omega
  generalize htm : vs ++ Array.replicate (fn.ntmps - vs.size) undef = tm at hget hsz ⊢
  refine wpS_seq (h0 c₀ cs (.iface T u) _ _ w hu hsz ?_)
  refine wpS_of_wp ?_
  let C : Ctx := { w0 := w, PB := PBof V ρ, I0 := I, N := fn.ntmps, K := keptK al, args := fun t => tm.getD t undef }
  have hm' : Mem C V ρ I w := hm.ctx rfl rfl rfl
  have hne : ∀ i, i < al.length → ((tm.setIfInBounds t7 (.iface T u)).setIfInBounds t (.iface T u)).getD i undef = tm.getD i undef := fun i hi => by
    simp only [Array.getD_eq_getD_getElem?]
    rw [Array.getElem?_setIfInBounds_ne (by omega), Array.getElem?_setIfInBounds_ne (by omega)]
  have hat : At C ⟨(t, .d (.sc (.iface T u))) :: argA 0 al, V⟩ { tmps := (tm.setIfInBounds t7 (.iface T u)).setIfInBounds t (.iface T u), defers := [] } w := by
    refine ⟨ρ, I, hm', rfl, ?_, fun t' ht' => ?_, fun t' v htv => ?_⟩
    · show ((tm.setIfInBounds t7 (.iface T u)).setIfInBounds t (.iface T u)).size = fn.ntmps
      simp [hsz]
    · have hlt : t' < al.length := by
        have h1 : keptK al t' = true := ht'
        unfold keptK at h1
        split at h1
        · rename_i heq; exact (List.getElem?_eq_some_iff.1 heq).1
        · cases h1
      exact hne t' hlt
    · rw [qAU] at htv
      split at htv
      · rename_i htt
        subst htt
        injection htv with htv
        subst htv
        refine ⟨htn, trivial, ?_⟩
        have : ((tm.setIfInBounds t7 (.iface T u)).setIfInBounds t (.iface T u)).getD t undef = .iface T u := by
          simp [Array.getD_eq_getD_getElem?, hsz, htn]
        show RepA ρ I w _ (((tm.setIfInBounds t7 (.iface T u)).setIfInBounds t (.iface T u)).getD t undef)
        rw [this]
        exact ⟨rfl, rfl⟩
      · obtain ⟨i, h1, h2⟩ := qDx htv
        rw [Nat.zero_add] at h1
        subst h1
        obtain ⟨x, h3, h4, h5, h6⟩ := hget h2
        have hlt : t' < al.length := (List.getElem?_eq_some_iff.1 h2).1
        refine ⟨by show t' < fn.ntmps; omega, A.insB_mem hin v (List.mem_of_getElem? h2), ?_⟩
        show RepA ρ I w v (((tm.setIfInBounds t7 (.iface T u)).setIfInBounds t (.iface T u)).getD t' undef)
        rw [hne t' hlt, h5]; exact h4
  have hfin : ∀ s a' w', (∃ l, Forget l s ⟨keptS 0 al, V'⟩) → At C s a' w' → a'.defers = [] ∧ ∃ u', ({ c₀ with mode := .panicking [{ v := .iface T u, recovered := true }] } : Frame) :: cs = { c₀ with mode := u' } :: cs ∧ ∃ x, (results fn a'.tmps).run P w' = .ok x w' ∧
      ((∃ y, Ending.returned x = .returned y) ∧ settle u' = .returning ∧ ∃ ρ' I', (∀ p ∈ V', ρ' p.1 = ρ p.1) ∧ Mem (qDA V ρ I w) (V' ++ []) ρ' I' w') := by
    rintro s a' w' ⟨l, hfg⟩ ⟨ρ2, J, hm2, hfr⟩
    have m2 := hfg.mem hm2
    have f2 := hfg.fr hfr
    refine ⟨hfr.defers, .panicking [{ v := .iface T u, recovered := true }], rfl, .tuple #[], ?_, ⟨_, rfl⟩, rfl, _, J, fun p hp => ?_, by rw [List.append_nil]; exact m2.ctx rfl rfl rfl⟩
    · unfold results
      rw [hrs]
      simp [go_sem]
    · obtain ⟨i, off, hi⟩ := qE9 (List.all_eq_true.1 hV p hp)
      obtain ⟨_, _, g1, q1, q2⟩ := f2.val i (.px p.1 off) (by have := qEE (k := 0) hi; rwa [Nat.zero_add] at this)
      obtain ⟨x, _, ⟨g0, z1, z2⟩, z3, _⟩ := hget hi
      have hk := hfr.keep i (by show keptK al i = true; unfold keptK; rw [hi])
      have hk : a'.tmps.getD i undef = x := by rw [hk]; exact z3
      rw [hk, z2] at q2
      injection q2 with q2; injection q2 with q2; injection q2 with q2
      subst q2
      show ρ2 (qAR l p.1) = ρ p.1
      rw [z1]; exact q1
  refine wp_mono (qBy hmx X _ _ _ w (C := C) hok hX hat) fun en a' w' hq => ?_
  obtain ⟨s, hq, ha⟩ := hq
  cases en with
  | normal => exact hfin s a' w' hq ha
  | ret => exact hfin s a' w' hq ha
  | _ => exact hq.elim
def DefR2 (P : Program) (c4 : Code) (g : FuncId) (caps : List Nat) (t : Nat) : Prop := ∀ (Q : Exit → Act → World → Prop) (a : Act) (w : World), t < a.tmps.size →
  (∀ x : Value, Q .normal { tmps := a.tmps.setIfInBounds t x, defers := { target := .fn (.func g) (caps.map fun k => a.tmps.getD k undef).toArray, args := #[] } :: a.defers } w) → c4.wp P Q a w
theorem ret_run {C : Ctx} {fn : Func} {rs : List ResultVar} {r : D} {s : St} {a : Act} {w : World} (hrs : fn.results = rs.toArray) (h : RetOk P rs r s) (hat : At C s a w) (hPB : C.PB = fun _ => False) :
    ∃ v, (results fn a.tmps).run P w = .ok v w ∧ RepD (fun g => (C.I0 g ∨ C.w0.heap.size ≤ g) ∧ g < w.heap.size) w r v ∧ Below C.w0.heap.size C.w0 w := by
  obtain ⟨vs', ds', h1, h2, hsub⟩ := h
  obtain ⟨ρ5, J5, m5, f5⟩ := hat
  obtain ⟨us, b1, b2, b3⟩ := qCZ m5 f5 h1
  obtain ⟨J', m1, x1, r1, _⟩ := qB0 _ _ ds' s.β J5 m5 b2 b3 h2
  have hul := qBA r1
  have hx : ExtI J' w (fun g => (C.I0 g ∨ C.w0.heap.size ≤ g) ∧ g < w.heap.size) w := ⟨fun g hg => ⟨by
    rcases m1.new g hg with h | h | h
    · exact .inl h
    · exact .inr h
    · rw [hPB] at h; exact h.elim, m1.imm g hg⟩, fun _ _ => rfl⟩
  have hbel : Below C.w0.heap.size C.w0 w := ⟨m1.os, m1.tape, m1.output, m1.size, fun k hk => m1.frame k hk (fun h => by rw [hPB] at h; exact h)⟩
  refine ⟨(if h : us.toArray.size = 1 then us.toArray[0] else .tuple us.toArray), ?_, ?_, hbel⟩
  · have hrm : ∀ fn' : Func, fn'.results = rs.toArray → results fn' a.tmps = (do
        let vs ← rs.toArray.mapM (qEi a.tmps)
        pure (if h : vs.size = 1 then vs[0] else .tuple vs)) := fun fn' h' => by
      unfold results
      rw [h']
      congr 1
    rw [hrm fn hrs, List.mapM_toArray]
    simp only [map_eq_pure_bind, bind_assoc, pure_bind, Sem.run_bind, b1, Result.andThen_ok, Sem.run_pure]
  · refine hsub _ _ _ ?_
    cases ds' with
    | nil =>
      cases r1
      refine ⟨#[], by rfl, rfl⟩
    | cons d ds1 =>
      obtain ⟨u, us1, rfl, _, hd, hrest⟩ := r1
      cases ds1 with
      | nil =>
        cases hrest
        exact RepD.ext hx d u hd
      | cons d2 ds2 =>
        have hl2 := qBA hrest
        rw [dif_neg (by simp [hl2])]
        refine ⟨_, rfl, ?_⟩
        have := RepC.ext hx false (d :: d2 :: ds2) (u :: us1) ⟨u, us1, rfl, fun h => by (cases h), hd, hrest⟩
        simpa using this
theorem caps_rep {ρ : Nat → Value} {I : Nat → Prop} {w : World} {f : Nat → Value} {σ : Sl} (hv : ∀ t v, look t σ = some v → RepA ρ I w v (f t)) : ∀ {caps : List Nat} {al : List A}, caps.map (fun k => look k σ) = al.map some → qBf ρ I w false al (caps.map f)
  | [], [], _ => rfl
  | k :: caps, v :: al, h => by
    simp only [List.map_cons, List.cons.injEq] at h
    exact ⟨f k, caps.map f, rfl, fun h => by (cases h), hv k v h.1, caps_rep hv h.2⟩
  | [], _ :: _, h => by simp at h
  | _ :: _, [], h => by simp at h
theorem caps_in {β : Bx} {σ : Sl} (hv : ∀ t v, look t σ = some v → v.inB β) : ∀ {caps : List Nat} {al : List A}, caps.map (fun k => look k σ) = al.map some → A.insB β al
  | [], [], _ => trivial
  | k :: caps, v :: al, h => by
    simp only [List.map_cons, List.cons.injEq] at h
    exact ⟨hv k v h.1, caps_in hv h.2⟩
  | [], _ :: _, h => by simp at h
  | _ :: _, [], h => by simp at h
theorem pc_of_aw_dp {f : FuncId} {fn : Func} {c0 c1 c3 c4 X : Code} {ds : List D} {r : D} {rs : List ResultVar} {s3 s5 : St} {g : FuncId} {caps : List Nat} {t : Nat} {L al : List A} {V V' ups : Bx} {T : TypeId} {u : Value} (ren : List (Nat × Nat)) (hf : P.funcs[f]? = some fn) (hb : fn.body = some (.seq c0 (.seq c1 (.seq c3 (.seq c4 X)))))
    (hn : (fn.name == "runtime.NumGoroutine") = false) (hmx : P.follows .mixedOrders = true) (hok : qBP (fun _ => false) fn.ntmps (.seq c0 (.seq c1 (.seq c3 (.seq c4 X)))) = true) (hokX : qBP (fun k => caps.contains k) fn.ntmps X = true) (hds : ds.length ≤ fn.ntmps) (hrs : fn.results = rs.toArray)
    (hA : AW P (.seq c0 (.seq c1 c3)) (fun e s => e = .normal ∧ Ent s s3) ⟨argS 0 ds, []⟩) (h4 : DefR2 P c4 g caps t) (ht : look t s3.σ = none) (htn : t < fn.ntmps) (htc : caps.contains t = false) (hg : qD9 P g)
    (hX : AW P X (fun e s => e = .panic [{ v := .iface T u, recovered := false }] ∧ Ent s s5) s3) (hq : Catches P g al V V' (.iface T u)) (hcaps : caps.map (fun k => look k s5.σ) = L.map some)
    (has : L.map (frzX s5.β) = A.rens (qAR ren) al) (hkb : keepB (qAR ren) (qB3 s5.β L ++ s5.β) (V ++ [])) (ho : qDP (qAR ren) (V ++ []) = true) (hin : inBb (V ++ []) (V ++ [])) (hia : A.insB (V ++ []) al)
    (hkeys : V'.map (·.1) = V.map (·.1)) (hlv : V.all (fun p => p.2.live) = true) (ho' : qDP (qAR ren) (V' ++ []) = true)
    (hups : ups = renB (qAR ren) (V' ++ []) ++ qCO (qAR ren) [] ++ qB3 s5.β L) (hret : RetOk P rs r ⟨s5.σ, ups ++ s5.β⟩) : PC P f ds r := by
  refine ⟨qCk hf hb hn, fun I w vs hI hr => ?_⟩
  refine calls_of_wp_defers hf hb ?_
  have hvl := qBA hr
  rw [Array.length_toList] at hvl
  let C : Ctx := { w0 := w, PB := fun _ => False, I0 := I, N := fn.ntmps, K := fun _ => false, args := fun _ => undef }
  have hat : At C ⟨argS 0 ds, []⟩ { tmps := vs ++ Array.replicate (fn.ntmps - vs.size) undef, defers := [] } w := by
    refine ⟨fun _ => undef, I, ⟨rfl, rfl, rfl, Nat.le_refl _, fun _ _ _ => rfl, hI.1, fun g hg => .inl hg, fun id b h => by (cases h), fun id b g h => by (cases h), fun i j b b' g h => by (cases h), fun id b h => by (cases h), hI.2⟩, rfl, ?_, fun t ht => (by cases ht), fun t v ht => ?_⟩
    · show (vs ++ Array.replicate (fn.ntmps - vs.size) undef).size = fn.ntmps
      simp; omega
    · obtain ⟨i, d, h1, h2, rfl⟩ := qD2 ht
      obtain ⟨u, h3, h4, _⟩ := qDh hr h2
      have hlt : i < vs.size := by rw [← Array.length_toList]; exact (List.getElem?_eq_some_iff.1 h3).1
      rw [Nat.zero_add] at h1
      subst h1
      refine ⟨by show t < fn.ntmps; omega, trivial, ?_⟩
      have e1 : (vs ++ Array.replicate (fn.ntmps - vs.size) undef).getD t undef = u := by
        rw [Array.getD_eq_getD_getElem?, Array.getElem?_append_left hlt]
        have : vs[t]? = some u := by simpa using h3
        rw [this]; rfl
      show RepD I w d ((vs ++ Array.replicate (fn.ntmps - vs.size) undef).getD t undef)
      rw [e1]; exact h4
  simp only [qBP, Bool.and_eq_true] at hok
  obtain ⟨k0, k1, k3, k4, kX⟩ := hok
  have hA : AW P c0 (qDz (AW P c1 (qDz (AW P c3 (fun e s => e = .normal ∧ Ent s s3)) (fun e s => e = .normal ∧ Ent s s3))) (fun e s => e = .normal ∧ Ent s s3)) ⟨argS 0 ds, []⟩ := hA
  have hdead : ∀ {e : Exit} {s : St} {p : Prop}, e ≠ .normal → (e = .normal ∧ Ent s s3) → p := fun h h2 => absurd h2.1 h
  refine wp_seq (wp_mono (qBy hmx (C := C) c0 _ _ _ w k0 hA hat) fun e a1 w1 hq1 => ?_)
  obtain ⟨s1, hq1, at1⟩ := hq1
  cases e with
  | normal =>
    refine wp_seq (wp_mono (qBy hmx (C := C) c1 _ _ _ w1 k1 hq1 at1) fun e a2 w2 hq2 => ?_)
    obtain ⟨s2, hq2, at2⟩ := hq2
    cases e with
    | normal =>
      refine wp_seq (wp_mono (qBy hmx (C := C) c3 _ _ _ w2 k3 hq2 at2) fun e a3 w3 hq3 => ?_)
      obtain ⟨s, ⟨rfl, hE⟩, at3⟩ := hq3
      have at3 := hE _ _ _ at3
      obtain ⟨ρ, J, hm, hfr⟩ := at3
      refine wp_seq (h4 _ _ _ (by rw [hfr.size]; exact htn) fun x => ?_)
      generalize hcap : (caps.map fun k => a3.tmps.getD k undef).toArray = cap
      let C' : Ctx := { C with dfs := [{ target := .fn (.func g) cap, args := #[] }], K := fun k => caps.contains k, args := fun k => (a3.tmps.setIfInBounds t x).getD k undef }
      have hd3 : a3.defers = [] := hfr.defers
      have hne : ∀ t', t ≠ t' → (a3.tmps.setIfInBounds t x).getD t' undef = a3.tmps.getD t' undef := fun t' hne => by simp [Array.getD_eq_getD_getElem?, Array.getElem?_setIfInBounds_ne hne]
      have at4 : At C' s3 { tmps := a3.tmps.setIfInBounds t x, defers := { target := .fn (.func g) cap, args := #[] } :: a3.defers } w3 := by
        refine ⟨ρ, J, ⟨hm.os, hm.tape, hm.output, hm.size, hm.frame, hm.imm, hm.new, hm.box, hm.own, hm.inj, hm.clo, hm.gl⟩, by rw [hd3], by show (a3.tmps.setIfInBounds t x).size = _; rw [Array.size_setIfInBounds]; exact hfr.size, fun t ht => rfl, fun t' u hu => ?_⟩
        obtain ⟨q1, q2, q3⟩ := hfr.val t' u hu
        refine ⟨q1, q2, ?_⟩
        have hne2 : t ≠ t' := fun e => by rw [e] at ht; rw [ht] at hu; cases hu
        show RepA ρ J w3 u ((a3.tmps.setIfInBounds t x).getD t' undef)
        rw [hne t' hne2]; exact q3
      refine wp_mono (qBy hmx (C := C') X _ _ _ w3 hokX hX at4) fun e a5 w5 hq5 => ?_
      obtain ⟨s', ⟨rfl, hE5⟩, at5⟩ := hq5
      obtain ⟨ρ5, J5, m5, f5⟩ := hE5 _ _ _ at5
      have hcap5 : cap.toList = caps.map fun k => a5.tmps.getD k undef := by
        rw [← hcap]
        refine List.map_congr_left fun k hk => ?_
        have h1 := f5.keep k (by show caps.contains k = true; simpa using hk)
        have hkt : t ≠ k := fun e => by
          rw [e] at htc
          have : caps.contains k = true := by simpa using hk
          rw [this] at htc; cases htc
        rw [h1]
        exact (hne k hkt).symm
      have hrep : qBf ρ5 J5 w5 false L cap.toList := by
        rw [hcap5]
        exact caps_rep (fun t v hv => (f5.val t v hv).2.2) hcaps
      have hinb : A.insB s5.β L := caps_in (fun t v hv => (f5.val t v hv).2.1) hcaps
      obtain ⟨I1, hmc, hre, hnext⟩ := callX_mem (V' := V') (R' := []) ren ren has hkb ho hin hkeys (by simp) hlv ho' (by rfl) hups rfl (fun _ _ => rfl) m5 hinb hrep
      have hd5 : a5.defers = [{ target := .fn (.func g) cap, args := #[] }] := f5.defers
      show Leaves P fn a5.tmps _ a5.defers (.panicking [{ v := .iface T u, recovered := false }]) w5
      rw [hd5]
      refine leaves_cons (f := g) (args := cap) (by simp) (by simp [go_sem]; exact hg cap w5) ?_
      refine (hq _ I1 w5 cap hmc hia hre).mono ?_
      rintro e u' w6 ⟨⟨v0, rfl⟩, hset, ρ', I', hρ, hm'⟩
      obtain ⟨ρ2, I2, q1, q2, _⟩ := hnext w6 ρ' I' hρ hm'
      have at6 : At C' ⟨s5.σ, ups ++ s5.β⟩ a5 w6 := by
        refine ⟨ρ2, I2, q1, f5.defers, f5.size, f5.keep, fun t v ht => ?_⟩
        obtain ⟨k1, k2, k3⟩ := f5.val t v ht
        exact ⟨k1, A.inB_mono (fun i hi => qBp hi) v k2, RepA.ext q2 v _ k2 k3⟩
      obtain ⟨v, y1, y2, y3⟩ := ret_run hrs hret at6 rfl
      show Leaves P fn a5.tmps _ [] (settle u') w6
      rw [hset]
      exact ⟨v, y1, v, rfl, y2, y3⟩
    | _ => exact hdead (by simp) hq2
  | _ => exact hdead (by simp) hq1
end
end Go.Proofs.YtlpnnnmdkglkcaaDoor

