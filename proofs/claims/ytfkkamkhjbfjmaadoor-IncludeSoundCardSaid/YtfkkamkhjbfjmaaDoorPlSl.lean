/-
  The pure layer: a part of a slice with a bound on its capacity; parts of lists. No condition.
-/
import Derived.Test.YtfkkamkhjbfjmaaDoorPlB2
namespace Go.Proofs.YtfkkamkhjbfjmaaDoor
set_option linter.unusedSimpArgs false
set_option linter.unusedVariables false
open Go.RowKit

section
variable {P : Program} {dst : Option Nat} {ty : TypeId} {e : Operand → A} {β : Bx} {T : TypeId} {x : Operand}
theorem slice_rep3 {I : Nat → Prop} {w : World} {sz : Nat} {es : List (List D)} {ad : Option Addr} {c l h m : Nat} {n : Nat} (hr : RepD I w (.sl sz es) (.slice ad n c)) (h1 : l ≤ h) (h2 : h ≤ n) (h3 : h ≤ m) :
    RepD I w (.sl sz ((es.take h).drop l)) (.slice (if m = l then ad else ad.map (·.add (l * sz))) (h - l) (m - l)) := by
  obtain ⟨hn, hc, xs, hR, hg⟩ := repD_sl hr
  have hlen : ((es.take h).drop l).length = h - l := by rw [List.length_drop, List.length_take]; omega
  refine ⟨_, m - l, (xs.take (h * sz)).drop (l * sz), by rw [hlen], by rw [hlen]; omega, repR_drop l (repR_take h hR), fun h0 => ?_⟩
  rw [hlen] at h0
  obtain ⟨g, off, rfl, hI, hcell⟩ := hg (by omega)
  rw [if_neg (by omega)]
  refine ⟨g, off + l * sz, by simp [Addr.add_mid], hI, fun j u hu => ?_⟩
  rw [List.getElem?_drop, List.getElem?_take] at hu
  split at hu
  · have := hcell _ u hu
    rwa [Nat.add_assoc]
  · cases hu
theorem run_slice3 {t te : TyI} {el : TypeId} (ht : mkTy P T = some t) (hk : t.kind = .slice el) (hte : mkTy P el = some te) {ad : Option Addr} {c l h m nn : Nat} {lo : Option Value} {k1 k2 k3 : IntKind} (hlo : lo = some (.int k1 (l : Int)) ∨ (lo = none ∧ l = 0))
    (h1 : l ≤ h) (h2 : h ≤ m) (h3 : m ≤ c) (w : World) : (Instr.sliceAt T (.slice ad nn c) lo (some (.int k2 (h : Int))) (some (.int k3 (m : Int)))).run P w = .ok (.slice (if m = l then ad else ad.map (·.add (l * te.size))) (h - l) (m - l)) w := by
  obtain ⟨i, d, z, _, hu, _, _, _, _, _, hkd⟩ := mkTy_spec ht
  have hu2 : P.underlying T = some (.slice el) := by rw [hu, kind_slice (hkd.symm.trans hk)]
  have b0 : ∀ c', (Instr.sliceBound (.int k3 (m : Int)) c c').run P w = .ok m w := fun c' => bound_run rfl h3 c' w
  have b1 : ∀ c', (Instr.sliceBound (.int k2 (h : Int)) m c').run P w = .ok h w := fun c' => bound_run rfl h2 c' w
  have b2 : ∀ c', (Instr.sliceBound (.int k1 (l : Int)) h c').run P w = .ok l w := fun c' => bound_run rfl h1 c' w
  rcases hlo with rfl | ⟨rfl, rfl⟩ <;> simp [Instr.sliceAt, Instr.slice, Instr.sliceBounds, Sem.run_bind, run_underlying hu2, b0, b1, b2, sizeOf_mkTy hte]
theorem does_slice3 {t te : TyI} {el : TypeId} {lo : Option Operand} {hi mx : Operand} {sz l h m : Nat} {k k' : IntKind} {mm hv : Int} {es : List (List D)} (ht : mkTy P T = some t) (hk : t.kind = .slice el) (hte : mkTy P el = some te) (hx : e x = .d (.sl sz es)) (hsz : te.size = sz) (hl : loIs e l lo) (hh : e hi = .d (.sc (.int k' hv))) (hhv : hv = (h : Nat)) (hmx : e mx = .d (.sc (.int k mm))) (hmm : mm = (m : Nat)) (h1 : l ≤ h) (h2 : h ≤ m) (h3 : m ≤ es.length) :
    Does P dst (.slice T x lo (some hi) (some mx)) ty e β (.d (.sl sz ((es.take h).drop l))) [] [] :=
  Does.of_run fun C γ _ ρ I w _ a hops o ho _ => by
    have q1 := (hops x (by simp [Op.operands])).2
    rw [hx] at q1
    obtain ⟨ad, c, xs, q2, q3, q4, q5⟩ := q1
    have q6 := (hops mx (by simp [Op.operands])).2
    rw [hmx] at q6
    have q7 := repA_sc q6
    have q8 := (hops hi (by simp [Op.operands])).2
    rw [hh] at q8
    have q9 := repA_sc q8
    obtain ⟨k1, v1⟩ := lo_val (a := a) hl fun y hy => (hops y (by cases lo <;> simp_all [Op.operands])).2
    have hrun := run_slice3 (P := P) ht hk hte (ad := ad) (c := c) (h := h) (m := m) (nn := es.length) (k2 := k') (k3 := k) v1 h1 h2 (by omega) w
    rw [hsz] at hrun
    refine ⟨_, ?_, trivial, slice_rep3 (m := m) (n := es.length) ⟨ad, c, xs, rfl, q3, q4, q5⟩ h1 (by omega) h2⟩
    simp only [execOp, ho, q2, Sem.run_bind, Option.map_some, q7, q9, hmm, hhv, hrun]
    rfl
theorem does_slice_m {α : Type} {f : α → List D} {L L' : List α} {t te : TyI} {el : TypeId} {lo hi : Option Operand} {sz l h : Nat} (ht : mkTy P T = some t) (hk : t.kind = .slice el) (hte : mkTy P el = some te) (hx : e x = .d (.sl sz (L.map f))) (hsz : te.size = sz) (hl : loIs e l lo) (hh : hiIs e h L.length hi) (h1 : l ≤ h) (h2 : h ≤ L.length) (hc : (L.take h).drop l = L') :
    Does P dst (.slice T x lo hi none) ty e β (.d (.sl sz (L'.map f))) [] [] := by
  have hd := does_slice (P := P) (dst := dst) (ty := ty) (β := β) ht hk hte hx hsz hl (by rw [List.length_map]; exact hh) h1 (by rw [List.length_map]; exact h2)
  rwa [← List.map_take, ← List.map_drop, hc] at hd
theorem does_slice3_m {α : Type} {f : α → List D} {L L' : List α} {t te : TyI} {el : TypeId} {lo : Option Operand} {hi mx : Operand} {sz l h m : Nat} {k k' : IntKind} {mm hv : Int} (ht : mkTy P T = some t) (hk : t.kind = .slice el) (hte : mkTy P el = some te) (hx : e x = .d (.sl sz (L.map f))) (hsz : te.size = sz) (hl : loIs e l lo) (hh : e hi = .d (.sc (.int k' hv))) (hhv : hv = (h : Nat)) (hmx : e mx = .d (.sc (.int k mm))) (hmm : mm = (m : Nat)) (h1 : l ≤ h) (h2 : h ≤ m) (h3 : m ≤ L.length) (hc : (L.take h).drop l = L') :
    Does P dst (.slice T x lo (some hi) (some mx)) ty e β (.d (.sl sz (L'.map f))) [] [] := by
  have hd := does_slice3 (P := P) (dst := dst) (ty := ty) (β := β) ht hk hte hx hsz hl hh hhv hmx hmm h1 h2 (by rw [List.length_map]; exact h3)
  rwa [← List.map_take, ← List.map_drop, hc] at hd
end
end Go.Proofs.YtfkkamkhjbfjmaaDoor
