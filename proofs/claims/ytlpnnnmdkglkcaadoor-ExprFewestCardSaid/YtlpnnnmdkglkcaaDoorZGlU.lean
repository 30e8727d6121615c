/-
  The laid tables of unicode/utf8 read as the tables of the walks; the start of the calls meets them. No condition.
-/
import Derived.Test.YtlpnnnmdkglkcaaDoorZValid
import Derived.Test.YtlpnnnmdkglkcaaDoorTie
import Derived.OpenShut
import Derived.LaidMore
import Derived.Lay
import Derived.Stop.Joined
set_option linter.unusedSimpArgs false
set_option linter.unusedVariables false
namespace Go.Proofs.YtlpnnnmdkglkcaaDoor
set_option maxRecDepth 100000
open Go.ChangeShapes Go.WideShapes Go.ChangeAt Go.RowKit

abbrev laidL : List (String × DataW Unit) := [("unicode/utf8.acceptRanges", Rows.laid_unicode_utf8_acceptRanges), ("unicode/utf8.first", Rows.laid_unicode_utf8_first)]
theorem door_met (os : Os) (args : Array Value) : laidMetH Tryd.prog laidL ((World.laidAll Tryd.prog os laidL).forCall (fun _ _ => 0) ⟨#[], args, []⟩).memory := by
  rw [MakeChecks.laidMetH_plain _ _ _ (by kernel_rfl)]
  exact laidMet_laidAll args (by kernel_rfl) (by kernel_rfl)
theorem u8extra : U8Extra Tryd.prog qCY := { n3 := by kernel_rfl, n4 := by kernel_rfl, y3 := by kernel_rfl, y4 := by kernel_rfl, c5 := by kernel_rfl, c119 := by kernel_rfl, c138 := by kernel_rfl }
theorem tabs_of_laid {W : World} (h : laidMetH Tryd.prog laidL W) : Lib.Utf8Tabs gFirst gAcc W := by
  rw [MakeChecks.laidMetH_plain _ _ _ (by kernel_rfl)] at h
  have e1 : Rows.laid_unicode_utf8_first = Lib.firstData := by kernel_rfl
  have e2 : (Rows.laid_unicode_utf8_acceptRanges : DataW Unit) = Lib.acceptData := by kernel_rfl
  exact utf8Tabs_of_readsT (U8Types.of196 laysValid) u8extra (e1 ▸ Lib.laidMet.reads h (List.mem_cons_of_mem _ List.mem_cons_self)) (e2 ▸ Lib.laidMet.reads h List.mem_cons_self)
theorem repC_sc (I : Nat → Prop) (w : World) : ∀ l : List Value, (∀ v ∈ l, v.oneCell' = true) → RepC I w true (l.map D.sc) l
  | [], _ => rfl
  | v :: l, h => ⟨v, l, rfl, fun _ => rfl, ⟨rfl, h v (by simp)⟩, repC_sc I w l fun u hu => h u (by simp [hu])⟩
theorem gl_one {W : World} {g : Nat} {l : List Value} (h1 : ∀ v ∈ l, v.oneCell' = true) (h0 : 0 < l.length) (hc : ∀ j v, l[j]? = some v → W.cell? ⟨g, j, none⟩ = some v) : g < W.heap.size ∧ ∃ xs, RepR (fun g => g < W.heap.size) W (l.map D.sc).length [l.map D.sc] xs ∧ ∀ (j : Nat) (u : Value), xs[j]? = some u → W.cell? ⟨g, j, none⟩ = some u := by
  refine ⟨?_, l, ⟨l, [], (List.append_nil _).symm, rfl, repC_sc _ _ _ h1, rfl⟩, hc⟩
  obtain ⟨v, hv⟩ : ∃ v, l[0]? = some v := ⟨_, List.getElem?_eq_getElem h0⟩
  have := hc 0 v hv
  unfold World.cell? at this
  rcases Nat.lt_or_ge g W.heap.size with h1 | h1
  · exact h1
  · rw [Array.getElem?_eq_none h1] at this
    cases this
theorem acc_at {n : Nat} : ∀ {j : Nat} {v : Value}, ((List.range n).flatMap fun i => [Value.int .u8 (Lib.accLo i), Value.int .u8 (Lib.accHi i)])[j]? = some v → ∃ i, i < n ∧ ((j = 2 * i ∧ v = .int .u8 (Lib.accLo i)) ∨ (j = 2 * i + 1 ∧ v = .int .u8 (Lib.accHi i))) := by
  induction n with
  | zero => intro j v h; simp at h
  | succ n ih =>
    intro j v h
    have hl : ((List.range n).flatMap fun i => [Value.int .u8 (Lib.accLo i), Value.int .u8 (Lib.accHi i)]).length = 2 * n := by
      clear ih h
      induction n with
      | zero => rfl
      | succ n ih => rw [List.range_succ, List.flatMap_append, List.length_append, ih]; simp; omega
    rw [List.range_succ, List.flatMap_append] at h
    by_cases hj : j < 2 * n
    · rw [List.getElem?_append_left (by omega)] at h
      obtain ⟨i, h1, h2⟩ := ih h
      exact ⟨i, by omega, h2⟩
    · rw [List.getElem?_append_right (by omega), hl] at h
      refine ⟨n, by omega, ?_⟩
      rcases (by omega : j = 2 * n ∨ j = 2 * n + 1 ∨ 2 * n + 2 ≤ j) with rfl | rfl | hj2
      · rw [Nat.sub_self] at h
        exact .inl ⟨rfl, by simpa using h.symm⟩
      · rw [show 2 * n + 1 - 2 * n = 1 by omega] at h
        exact .inr ⟨rfl, by simpa using h.symm⟩
      · rw [List.getElem?_eq_none (by simp; omega)] at h
        cases h
theorem gl_of_laid {W : World} (h : laidMetH Tryd.prog laidL W) : GlOk (fun g => g < W.heap.size) W := by
  obtain ⟨t1, t2⟩ := tabs_of_laid h
  refine ⟨?_, fun g hg => absurd hg List.not_mem_nil⟩
  intro g cs hg
  by_cases h1 : g = gFirst
  · subst h1
    rw [gs_first] at hg
    injection hg with hg
    subst hg
    refine gl_one (fun v hv => ?_) (by decide) (fun j v hv => ?_)
    · unfold firstV at hv
      obtain ⟨c, _, rfl⟩ := List.mem_map.1 hv
      rfl
    · unfold firstV at hv
      rw [List.getElem?_map] at hv
      obtain ⟨c, hc, rfl⟩ := Option.map_eq_some_iff.1 hv
      obtain ⟨hj, e⟩ := List.getElem?_eq_some_iff.1 hc
      rw [List.length_range] at hj
      rw [List.getElem_range] at e
      subst e
      exact t1 j hj
  · by_cases h2 : g = gAcc
    · subst h2
      rw [gs_acc] at hg
      injection hg with hg
      subst hg
      refine gl_one (fun v hv => ?_) (by decide) (fun j v hv => ?_)
      · obtain ⟨j, hj⟩ := List.getElem?_of_mem hv
        obtain ⟨i, _, (⟨_, rfl⟩ | ⟨_, rfl⟩)⟩ := acc_at hj <;> rfl
      · obtain ⟨i, hi, (⟨rfl, rfl⟩ | ⟨rfl, rfl⟩)⟩ := acc_at hv
        · exact (t2 i hi).1
        · exact (t2 i hi).2
    · exfalso
      have hk : look g GsL = none := by
        unfold GsL
        rw [qA6]
        split
        · rename_i e
          exact absurd e.symm h1
        · rw [qA6]
          split
          · rename_i e
            exact absurd e.symm h2
          · rfl
      unfold Gs at hg
      rw [hk] at hg
      cases hg
end Go.Proofs.YtlpnnnmdkglkcaaDoor

