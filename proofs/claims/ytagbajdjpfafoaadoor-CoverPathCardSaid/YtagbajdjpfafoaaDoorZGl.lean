/-
  The laid table of the hash reads as the table of the walks; the start of the calls meets it. No condition.
-/
import Derived.Test.YtagbajdjpfafoaaDoorZB
import Derived.Test.YtagbajdjpfafoaaDoorTie
import Derived.OpenShut
import Derived.LaidMore
import Derived.Lay
import Derived.Stop.Joined
namespace Go.Proofs.YtagbajdjpfafoaaDoor
set_option linter.unusedSimpArgs false
set_option linter.unusedVariables false
set_option maxRecDepth 100000
open Go.ChangeShapes Go.WideShapes Go.ChangeAt Go.RowKit

abbrev laidL : List (String × DataW Unit) := [("chirograph/sum.steps", Rows.laid_chirograph_sum_steps)]
theorem door_met (os : Os) (args : Array Value) : laidMetH Tryd.prog laidL ((World.doorLaid Tryd.prog 400 os).forCall (fun _ _ => 0) ⟨#[], args, []⟩).memory :=
  laidMetH_of_parts3 (fuel := 8) (laidMet_of_run' 8 (by kernel_rfl) (by kernel_rfl)) (by kernel_rfl) (by kernel_rfl)
theorem steps_cell {W : World} (h : laidMetH Tryd.prog laidL W) (r : Nat) (hr : r < 64) : W.cell? ⟨0, r, none⟩ = some (.int .u32 ((gn0.getD r 0 : Nat) : Int)) := by
  rw [MakeChecks.laidMetH_plain _ _ _ (by kernel_rfl)] at h
  obtain ⟨ps, ⟨g, t, cs, fuel, p, q, hg, ht, hv, hd, _, _⟩, _, _⟩ := h
  obtain rfl := Option.some.inj ((show Tryd.prog.globalNamed "chirograph/sum.steps" = some 0 by kernel_rfl).symm.trans hg)
  obtain rfl := Option.some.inj ((show (Tryd.prog.globals[0]?).map (·.type) = some 96 by kernel_rfl).symm.trans ht)
  obtain ⟨xs, m, _, ex, _, hl, hel⟩ := DataW.trod_array Tryd.underlying96 hd
  have c5 : Tryd.prog.cellsOf 88 = 1 := by kernel_rfl
  have hE := hel r hr
  rw [c5, Nat.mul_one, List.getElem?_eq_getElem (by omega)] at hE
  obtain ⟨z, e1, e2, _⟩ := DataW.trod_int Tryd.underlying88 hE
  have hlen : gn0.length = 64 := by kernel_rfl
  have e3 : (xs.map (·.1)) = gn0.map fun n => .lit (.int .u32 ((n : Nat) : Int)) := by
    rw [← DataW.agg.inj (Prod.mk.inj ex).1]; rfl
  have e4 : (xs.map (·.1))[r]? = (gn0.map fun n => (DataW.lit (.int .u32 ((n : Nat) : Int)) : DataW Unit))[r]? := by rw [e3]
  rw [List.getElem?_map, List.getElem?_map, List.getElem?_eq_getElem (by omega : r < xs.length), List.getElem?_eq_getElem (by omega : r < gn0.length), e2] at e4
  have hz : z = ((gn0.getD r 0 : Nat) : Int) := by
    simp only [Option.map_some, Option.some.injEq, DataW.lit.injEq, Lit.int.injEq, true_and] at e4
    rw [e4, List.getD, List.getElem?_eq_getElem (by omega : r < gn0.length)]; rfl
  rw [World.var?_cell hg hv r, ← hz]
  have : cs.toList[r]? = some (.int .u32 z) := by
    have h0 : ((cs.toList.drop r).take 1)[0]? = some (.int .u32 z) := by rw [e1]; rfl
    simpa using h0
  simpa using this
theorem repC_sc (I : Nat → Prop) (w : World) : ∀ l : List Value, (∀ v ∈ l, v.oneCell' = true) → RepC I w true (l.map D.sc) l
  | [], _ => rfl
  | v :: l, h => ⟨v, l, rfl, fun _ => rfl, ⟨rfl, h v (by simp)⟩, repC_sc I w l fun u hu => h u (by simp [hu])⟩
theorem gl_of_laid {W : World} (h : laidMetH Tryd.prog laidL W) : GlOk (fun g => g < W.heap.size) W := by
  intro g cs hg
  have e : g = 0 ∧ cs = (gn0.map fun n : Nat => Value.int .u32 (n : Int)).map D.sc := by
    unfold Gs GsL look at hg
    split at hg
    · rename_i h0
      refine ⟨by simpa using h0.symm, ?_⟩
      rw [List.map_map]
      exact (Option.some.inj hg).symm
    · cases hg
  obtain ⟨rfl, rfl⟩ := e
  have hlen : gn0.length = 64 := by kernel_rfl
  refine ⟨?_, gn0.map fun n : Nat => Value.int .u32 (n : Int), ⟨_, [], (List.append_nil _).symm, rfl, repC_sc _ _ _ ?_, rfl⟩, fun j u hu => ?_⟩
  · have := steps_cell h 0 (by omega)
    unfold World.cell? at this
    rcases Nat.lt_or_ge 0 W.heap.size with h1 | h1
    · exact h1
    · rw [Array.getElem?_eq_none (by simpa using h1)] at this
      cases this
  · intro v hv
    obtain ⟨n, _, rfl⟩ := List.mem_map.1 hv
    rfl
  · rw [List.getElem?_map] at hu
    obtain ⟨n, hn, rfl⟩ := Option.map_eq_some_iff.1 hu
    obtain ⟨hj, e⟩ := List.getElem?_eq_some_iff.1 hn
    rw [steps_cell h j (by omega)]
    rw [List.getD, hn]; rfl
end Go.Proofs.YtagbajdjpfafoaaDoor
