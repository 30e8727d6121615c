/-
  The pure layer: contracts with a function among the arguments that has captured pointers to the caller's variables. No condition.
-/
import Derived.Test.YtnkpnnphmimagaaDoorZPlNil
namespace Go.Proofs.YtnkpnnphmimagaaDoor
set_option linter.unusedSimpArgs false
set_option linter.unusedVariables false
open Go.RowKit

/-- Arguments that stay where they are: pointers, and functions. -/
def isPxF : A → Bool
  | .px _ _ => true
  | .fn _ _ _ => true
  | _ => false
def pxIn (id : Nat) : A → Bool
  | .px i _ => i == id
  | .fn _ _ cs => cs.any fun c => match c with
    | .px i _ => i == id
    | _ => false
  | _ => false
def keptSF : Nat → List A → Sl
  | _, [] => []
  | i, a :: r => if isPxF a = true then (i, a) :: keptSF (i + 1) r else keptSF (i + 1) r
def keptKF (al : List A) (t : Nat) : Bool := match al[t]? with
  | some a => isPxF a
  | none => false
def hasPxF (id : Nat) (al : List A) : Bool := al.any fun a => isPxF a && pxIn id a
theorem hasPxF_get {id : Nat} {al : List A} (h : hasPxF id al = true) : ∃ (i : Nat) (a : A), al[i]? = some a ∧ isPxF a = true ∧ pxIn id a = true := by
  obtain ⟨a, h1, h2⟩ := List.any_eq_true.1 h
  simp only [Bool.and_eq_true] at h2
  obtain ⟨i, hi⟩ := List.getElem?_of_mem h1
  exact ⟨i, a, hi, h2.1, h2.2⟩
theorem keptSF_look : ∀ {al : List A} {k i : Nat} {a : A}, al[i]? = some a → isPxF a = true → look (k + i) (keptSF k al) = some a
  | b :: al, k, 0, a, h, hp => by
    have h : some b = some a := h
    injection h with h
    subst h
    unfold keptSF
    rw [if_pos hp]
    simp [look_cons]
  | b :: al, k, i + 1, a, h, hp => by
    have h : al[i]? = some a := by simpa using h
    have ih := keptSF_look (k := k + 1) h hp
    rw [show k + (i + 1) = k + 1 + i by omega]
    unfold keptSF
    split
    · rw [look_cons, if_neg (by omega)]; exact ih
    · exact ih
theorem pxIn_same {ρ ρ' : Nat → Value} {I I' : Nat → Prop} {w w' : World} {id : Nat} {a : A} {u : Value} (h : pxIn id a = true) (h1 : RepA ρ I w a u) (h2 : RepA ρ' I' w' a u) : ρ id = ρ' id := by
  cases a with
  | px i off =>
    have h : i = id := by simpa [pxIn] using h
    subst h
    obtain ⟨g, a1, a2⟩ := h1
    obtain ⟨g', b1, b2⟩ := h2
    rw [a2] at b2
    injection b2 with b2; injection b2 with b2; injection b2 with b2
    subst b2
    rw [a1, b1]
  | fn f fs cs =>
    simp only [pxIn] at h
    obtain ⟨c, hc, hcid⟩ := List.any_eq_true.1 h
    obtain ⟨us, vs, a1, _, a3⟩ := h1
    obtain ⟨us', vs', b1, _, b3⟩ := h2
    rw [a1] at b1
    injection b1 with _ _ b1
    subst b1
    obtain ⟨j, hj⟩ := List.getElem?_of_mem hc
    obtain ⟨u1, y1, y2, _⟩ := repAs_get a3 hj
    obtain ⟨u2, y3, y4, _⟩ := repAs_get b3 hj
    rw [y1] at y3
    injection y3 with y3
    subst y3
    cases c with
    | px i off =>
      have hcid : i = id := by simpa using hcid
      subst hcid
      obtain ⟨g, a1, a2⟩ := y2
      obtain ⟨g', b1, b2⟩ := y4
      rw [a2] at b2
      injection b2 with b2; injection b2 with b2; injection b2 with b2
      subst b2
      rw [a1, b1]
    | _ => cases hcid
  | _ => cases h
def RetXF (P : Program) (rs : List ResultVar) (r : D) (al : List A) (V' R' : Bx) (s : St) : Prop := ∃ vs ds l, resVs P s rs vs ∧ frzVs s.β vs = some ds ∧ SubD (resD ds) r ∧ Forget l ⟨s.σ, frzVsU s.β vs ++ s.β⟩ ⟨keptSF 0 al, V' ++ R'⟩
def retXF (P : Program) (rs : List ResultVar) (r : D) (al : List A) (V' R' : Bx) : Exit → St → Prop
  | .normal, s => RetXF P rs r al V' R' s
  | .ret, s => RetXF P rs r al V' R' s
  | _, _ => False
section
variable {P : Program}
theorem pxf_of_aw {f : FuncId} {fn : Func} {c : Code} {al : List A} {V R V' R' : Bx} {r : D} {rs : List ResultVar} (hf : P.funcs[f]? = some fn) (hb : fn.body = some c) (hn : (fn.name == "runtime.NumGoroutine") = false) (hmx : P.follows .mixedOrders = true) (hok : codeOk (keptKF al) fn.ntmps c = true) (hds : al.length ≤ fn.ntmps)
    (hrs : fn.results = rs.toArray) (hV : V'.all (fun p => hasPxF p.1 al) = true) (h : AW P c (retXF P rs r al V' R') ⟨argA 0 al, V ++ R⟩) : PX P f al V R r V' R' := by
  refine ⟨enters_of hf hb hn, fun ρ I w vs hm hin hr => ?_⟩
  refine calls_of_wp hf hb ?_
  have hvl := repAs_len hr
  rw [Array.length_toList] at hvl
  have hget : ∀ {i : Nat} {v : A}, al[i]? = some v → ∃ u, vs[i]? = some u ∧ RepA ρ I w v u ∧ (vs ++ Array.replicate (fn.ntmps - vs.size) undef).getD i undef = u ∧ i < vs.size := fun {i v} hi => by
    obtain ⟨u, h3, h4, _⟩ := repAs_get hr hi
    have hlt : i < vs.size := by rw [← Array.length_toList]; exact (List.getElem?_eq_some_iff.1 h3).1
    have h5 : vs[i]? = some u := by simpa using h3
    refine ⟨u, h5, h4, ?_, hlt⟩
    rw [Array.getD_eq_getD_getElem?, Array.getElem?_append_left hlt, h5]; rfl
  let C : Ctx := { w0 := w, PB := PBof (V ++ R) ρ, I0 := I, N := fn.ntmps, K := keptKF al, args := fun t => (vs ++ Array.replicate (fn.ntmps - vs.size) undef).getD t undef }
  have hm' : Mem C (V ++ R) ρ I w := hm.ctx rfl rfl rfl
  have hat : At C ⟨argA 0 al, V ++ R⟩ { tmps := vs ++ Array.replicate (fn.ntmps - vs.size) undef, defers := [] } w := by
    refine ⟨ρ, I, hm', rfl, ?_, fun t _ => rfl, fun t v ht => ?_⟩
    · show (vs ++ Array.replicate (fn.ntmps - vs.size) undef).size = fn.ntmps
      simp; omega
    · obtain ⟨i, h1, h2⟩ := argA_look ht
      rw [Nat.zero_add] at h1
      subst h1
      obtain ⟨u, h3, h4, h5, h6⟩ := hget h2
      refine ⟨by show t < fn.ntmps; omega, A.insB_mem hin v (List.mem_of_getElem? h2), ?_⟩
      show RepA ρ I w v ((vs ++ Array.replicate (fn.ntmps - vs.size) undef).getD t undef)
      rw [h5]; exact h4
  have hfin : ∀ s a' w', RetXF P rs r al V' R' s → At C s a' w' → a'.defers = [] ∧ ∃ v, (results fn a'.tmps).run P w' = .ok v w' ∧
      (∃ v' ρ' I', Ending.returned v = .returned v' ∧ (∀ p ∈ V', ρ' p.1 = ρ p.1) ∧ Mem (ctxOf (V ++ R) ρ I w) (V' ++ R') ρ' I' w' ∧ RepD I' w' r v') := by
    rintro s a' w' ⟨vs', ds', l, h1, h2, hsub, hfg⟩ ⟨ρ2, J, hm2, hfr⟩
    obtain ⟨us, k1, k2, k3⟩ := resVs_run hm2 hfr h1
    obtain ⟨J', m1, x1, r1, _⟩ := freeze_vals _ _ ds' s.β J hm2 k2 k3 h2
    have hul := repC_len r1
    have hfr1 : Fr C s.σ (frzVsU s.β vs' ++ s.β) ρ2 J' w' a' := ⟨hfr.defers, hfr.size, hfr.keep, fun t v ht => by
      obtain ⟨q1, q2, q3⟩ := hfr.val t v ht
      exact ⟨q1, A.inB_mono (fun i hi => dom_append hi) v q2, RepA.ext x1 v _ q2 q3⟩⟩
    have m2 := hfg.mem m1
    have f2 := hfg.fr hfr1
    refine ⟨hfr.defers, (if h : us.toArray.size = 1 then us.toArray[0] else .tuple us.toArray), ?_, _, _, J', rfl, fun p hp => ?_, m2.ctx rfl rfl rfl, ?_⟩
    · have hrm : ∀ fn' : Func, fn'.results = rs.toArray → results fn' a'.tmps = (do
          let vs ← rs.toArray.mapM (resRun a'.tmps)
          pure (if h : vs.size = 1 then vs[0] else .tuple vs)) := fun fn' h' => by
        unfold results
        rw [h']
        congr 1
      rw [hrm fn hrs, List.mapM_toArray]
      simp only [map_eq_pure_bind, bind_assoc, pure_bind, Sem.run_bind, k1, Result.andThen_ok, Sem.run_pure]
    · obtain ⟨i, a0, hi, hk0, hid⟩ := hasPxF_get (List.all_eq_true.1 hV p hp)
      obtain ⟨_, _, q2⟩ := f2.val i a0 (by have := keptSF_look (k := 0) hi hk0; rwa [Nat.zero_add] at this)
      obtain ⟨u, _, z2, z3, _⟩ := hget hi
      have hk := hfr.keep i (by show keptKF al i = true; unfold keptKF; rw [hi]; exact hk0)
      have hk : a'.tmps.getD i undef = u := by rw [hk]; exact z3
      rw [hk] at q2
      exact (pxIn_same hid z2 q2).symm
    · refine hsub _ _ _ ?_
      cases ds' with
      | nil =>
        cases r1
        refine ⟨#[], by rfl, rfl⟩
      | cons d ds1 =>
        obtain ⟨u, us1, rfl, _, hd, hrest⟩ := r1
        cases ds1 with
        | nil =>
          cases hrest
          exact hd
        | cons d2 ds2 =>
          have hl2 := repC_len hrest
          rw [dif_neg (by simp [hl2])]
          refine ⟨_, rfl, ?_⟩
          have : RepC J' w' false (d :: d2 :: ds2) (u :: us1) := ⟨u, us1, rfl, fun h => by (cases h), hd, hrest⟩
          simpa using this
  refine wp_mono (aw_sound hmx c _ _ _ w (C := C) hok h hat) fun en a' w' hq => ?_
  obtain ⟨s, hq, ha⟩ := hq
  cases en with
  | normal => exact hfin s a' w' hq ha
  | ret => exact hfin s a' w' hq ha
  | _ => exact hq.elim
end
section
variable {P : Program} {rs : List ResultVar} {r : D} {al : List A} {V' R' : Bx} {s : St}
theorem xf_norm (h : RetXF P rs r al V' R' s) : retXF P rs r al V' R' .normal s := h
theorem xf_ret (h : RetXF P rs r al V' R' s) : retXF P rs r al V' R' .ret s := h
theorem retxf_ok {vs : List A} {ds : List D} {l : List (Nat × Nat)} (h1 : resVs P s rs vs) (h2 : frzVs s.β vs = some ds) (h3 : SubD (resD ds) r) (h4 : Forget l ⟨s.σ, frzVsU s.β vs ++ s.β⟩ ⟨keptSF 0 al, V' ++ R'⟩) : RetXF P rs r al V' R' s := ⟨vs, ds, l, h1, h2, h3, h4⟩
end
end Go.Proofs.YtnkpnnphmimagaaDoor

