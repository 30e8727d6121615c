/-
  The pure layer: contracts whose result has slices of its own in it, new ones (PG, with nothing frozen). No condition.
-/
import Derived.Test.YtpaccaojgbfjdaaZG
namespace Go.Proofs.Ytpaccaojgbfjdaa
set_option linter.unusedSimpArgs false
set_option linter.unusedVariables false
open Go.RowKit

def RetH (P : Program) (rs : List ResultVar) (r : A) (al : List A) (V' R' : Bx) (s : St) : Prop := ∃ vs l, resVs P s rs vs ∧ SubA (resA1 vs) (r.ren (renOf l)) ∧ Forget l s ⟨keptSF 0 al, V' ++ R'⟩
def retH (P : Program) (rs : List ResultVar) (r : A) (al : List A) (V' R' : Bx) : Exit → St → Prop
  | .normal, s => RetH P rs r al V' R' s
  | .ret, s => RetH P rs r al V' R' s
  | _, _ => False
section
variable {P : Program}
theorem ph_of_aw {f : FuncId} {fn : Func} {c : Code} {al : List A} {V R V' R' : Bx} {r : A} {rs : List ResultVar} (hf : P.funcs[f]? = some fn) (hb : fn.body = some c) (hn : (fn.name == "runtime.NumGoroutine") = false) (hmx : P.follows .mixedOrders = true) (hok : codeOk (keptKF al) fn.ntmps c = true) (hds : al.length ≤ fn.ntmps)
    (hrs : fn.results = rs.toArray) (hV : V'.all (fun p => hasPxF p.1 al) = true) (h : AW P c (retH P rs r al V' R') ⟨argA 0 al, V ++ R⟩) : PG P f al V R r V' R' := by
  refine ⟨enters_of hf hb hn, fun ρ I w vs hm hin hr => ?_⟩
  refine calls_of_wp hf hb ?_
  have hvl := repAs_len hr
  rw [Array.length_toList] at hvl
  have hget : ∀ {i : Nat} {v : A}, al[i]? = some v → ∃ u, vs[i]? = some u ∧ RepA ρ I w v u ∧ (vs ++ Array.replicate (fn.ntmps - vs.size) undef).getD i undef = u ∧ i < vs.size := fun {i v} hi => by
    obtain ⟨u, h3, h4, _⟩ := repAs_get hr hi
    have hlt : i < vs.size := by rw [← Array.length_toList]; exact (List.getElem?_eq_some_iff.1 h3).1
    have h5 : vs[i]? = some u := by simpa using h3
    refine ⟨u, h5, h4, ?_, hlt⟩
    rw [Array.getD_eq_getD_getElem?, Array.getElem?_append_left hlt, h5]; rfl
  let C : Ctx := { w0 := w, PB := PBof (V ++ R) ρ, I0 := I, N := fn.ntmps, K := keptKF al, args := fun t => (vs ++ Array.replicate (fn.ntmps - vs.size) undef).getD t undef }
  have hm' : Mem C (V ++ R) ρ I w := hm.ctx rfl rfl rfl
  have hat : At C ⟨argA 0 al, V ++ R⟩ { tmps := vs ++ Array.replicate (fn.ntmps - vs.size) undef, defers := [] } w := by
    refine ⟨ρ, I, hm', rfl, ?_, fun t _ => rfl, fun t v ht => ?_⟩
    · show (vs ++ Array.replicate (fn.ntmps - vs.size) undef).size = fn.ntmps
      simp; omega
    · obtain ⟨i, h1, h2⟩ := argA_look ht
      rw [Nat.zero_add] at h1
      subst h1
      obtain ⟨u, h3, h4, h5, h6⟩ := hget h2
      refine ⟨by show t < fn.ntmps; omega, A.insB_mem hin v (List.mem_of_getElem? h2), ?_⟩
      show RepA ρ I w v ((vs ++ Array.replicate (fn.ntmps - vs.size) undef).getD t undef)
      rw [h5]; exact h4
  have hfin : ∀ s a' w', RetH P rs r al V' R' s → At C s a' w' → a'.defers = [] ∧ ∃ v, (results fn a'.tmps).run P w' = .ok v w' ∧
      (∃ v' ρ' I', Ending.returned v = .returned v' ∧ (∀ p ∈ V', ρ' p.1 = ρ p.1) ∧ Mem (ctxOf (V ++ R) ρ I w) (V' ++ R') ρ' I' w' ∧ RepA ρ' I' w' r v') := by
    rintro s a' w' ⟨vs', l, h1, hsub, hfg⟩ ⟨ρ2, J, hm2, hfr⟩
    obtain ⟨us, k1, k2, r1⟩ := resVs_run hm2 hfr h1
    have m2 := hfg.mem hm2
    have f2 := hfg.fr hfr
    refine ⟨hfr.defers, (if h : us.toArray.size = 1 then us.toArray[0] else .tuple us.toArray), ?_, _, _, J, rfl, fun p hp => ?_, m2.ctx rfl rfl rfl, ?_⟩
    · have hrm : ∀ fn' : Func, fn'.results = rs.toArray → results fn' a'.tmps = (do
          let vs ← rs.toArray.mapM (resRun a'.tmps)
          pure (if h : vs.size = 1 then vs[0] else .tuple vs)) := fun fn' h' => by
        unfold results
        rw [h']
        congr 1
      rw [hrm fn hrs, List.mapM_toArray]
      simp only [map_eq_pure_bind, bind_assoc, pure_bind, Sem.run_bind, k1, Result.andThen_ok, Sem.run_pure]
    · obtain ⟨i, a0, hi, hk0, hid⟩ := hasPxF_get (List.all_eq_true.1 hV p hp)
      obtain ⟨_, _, q2⟩ := f2.val i a0 (by have := keptSF_look (k := 0) hi hk0; rwa [Nat.zero_add] at this)
      obtain ⟨u, _, z2, z3, _⟩ := hget hi
      have hk := hfr.keep i (by show keptKF al i = true; unfold keptKF; rw [hi]; exact hk0)
      have hk : a'.tmps.getD i undef = u := by rw [hk]; exact z3
      rw [hk] at q2
      exact (pxIn_same hid z2 q2).symm
    · exact RepA.ren _ r _ (hsub _ _ _ _ (repA_res r1))
  refine wp_mono (aw_sound hmx c _ _ _ w (C := C) hok h hat) fun en a' w' hq => ?_
  obtain ⟨s, hq, ha⟩ := hq
  cases en with
  | normal => exact hfin s a' w' hq ha
  | ret => exact hfin s a' w' hq ha
  | _ => exact hq.elim
variable {rs : List ResultVar} {s : St} {r : A} {al : List A} {V' R' : Bx}
theorem xh_ret (h : RetH P rs r al V' R' s) : retH P rs r al V' R' .ret s := h
theorem reth_ok {vs : List A} {l : List (Nat × Nat)} (h1 : resVs P s rs vs) (h2 : SubA (resA1 vs) (r.ren (renOf l))) (h4 : Forget l s ⟨keptSF 0 al, V' ++ R'⟩) : RetH P rs r al V' R' s := ⟨vs, l, h1, h2, h4⟩
end
end Go.Proofs.Ytpaccaojgbfjdaa

