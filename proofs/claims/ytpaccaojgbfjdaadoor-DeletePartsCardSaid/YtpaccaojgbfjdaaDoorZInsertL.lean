/-
  A row that is put in: its cell, the rows by rising keys. No condition.
-/
import Derived.Test.YtpaccaojgbfjdaaDoorZRiseL
set_option linter.unusedSimpArgs false
set_option linter.unusedVariables false
namespace Go.Proofs.YtpaccaojgbfjdaaDoor
open Go.RowKit

theorem freeN_free (d : List Ce) : ∀ (k n : Nat), qB3 d k = (n : Int) → n < k ∧ (d.getD n ⟨true, []⟩).full = false
  | 0, n, h => by unfold qB3 at h; omega
  | k + 1, n, h => by
    unfold qB3 at h
    split at h
    · rename_i hc
      have : k = n := by omega
      subst this
      exact ⟨by omega, hc.2⟩
    · have := freeN_free d k n h
      exact ⟨by omega, this.2⟩
theorem set_mem {d : List Ce} {n : Nat} {r x : List Vl} (h : n < d.length) (hf : (d.getD n ⟨true, []⟩).full = false) : (∃ c ∈ d.set n ⟨true, r⟩, c.full = true ∧ c.row = x) ↔ x = r ∨ ∃ c ∈ d, c.full = true ∧ c.row = x := by
  have hg : d.getD n ⟨true, []⟩ = d[n] := by rw [List.getD_eq_getElem?_getD, List.getElem?_eq_getElem h]; rfl
  rw [hg] at hf
  constructor
  · rintro ⟨c, hc, h1, rfl⟩
    rcases List.mem_or_eq_of_mem_set hc with hc | rfl
    · exact .inr ⟨c, hc, h1, rfl⟩
    · exact .inl rfl
  · rintro (rfl | ⟨c, hc, h1, rfl⟩)
    · refine ⟨⟨true, x⟩, ?_, rfl, rfl⟩
      rw [List.mem_iff_getElem]
      exact ⟨n, by rw [List.length_set]; exact h, List.getElem_set_self _⟩
    · obtain ⟨j, hj, rfl⟩ := List.mem_iff_getElem.1 hc
      have hne : n ≠ j := by
        intro e
        subst e
        rw [hf] at h1
        cases h1
      refine ⟨d[j], ?_, h1, rfl⟩
      rw [List.mem_iff_getElem]
      exact ⟨j, by rw [List.length_set]; exact hj, List.getElem_set_ne hne _⟩
theorem step_put {cols : List Cl} {d : List Ce} {n : Nat} {r : List Vl} (h : DrOk cols d) (h2 : DrOk cols (d.set n ⟨true, r⟩)) (hn : n < d.length) (hf : (d.getD n ⟨true, []⟩).full = false) (hlt : ∀ c ∈ d, c.full = true → keyN c.row < keyN r) : qBS true (d.set n ⟨true, r⟩) [] = qBS true d [] ++ [r] := by
  refine rise_eq (qB7 h2).1 ?_ fun x => ?_
  · unfold Rise
    rw [List.pairwise_append]
    refine ⟨(qB7 h).1, List.pairwise_singleton _ _, fun p hp q hq => ?_⟩
    rw [List.mem_singleton] at hq
    subst hq
    obtain ⟨c, hc, hcf, rfl⟩ := ((qB7 h).2 p).1 hp
    exact hlt c hc hcf
  · rw [(qB7 h2).2, set_mem hn hf, List.mem_append, (qB7 h).2, List.mem_singleton]
    exact Or.comm
theorem one_both {i : Nat} (hi : i < 2) : ∃ (oa ob : Bool) (j : Nat), j < 2 ∧ (1 : Int) - (i : Int) = (j : Int) ∧ PC Tryd.prog 15 [iD i] (.ag [bD oa, bD ob]) ∧ PC Tryd.prog 15 [iD j] (.ag [bD ob, bD oa]) ∧
    (∀ a b : List Ce, accF a b oa ob 2 = qBS true (drF a b i) []) ∧ (∀ a b : List Ce, accF a b ob oa 2 = qBS true (drF a b j) []) ∧
    (∀ (t : Tb) (n : Nat) (r : List Vl), drF (t.put i n r).a (t.put i n r).b i = (drF t.a t.b i).set n ⟨true, r⟩ ∧ drF (t.put i n r).a (t.put i n r).b j = drF t.a t.b j) := by
  rcases (by omega : i = 0 ∨ i = 1) with rfl | rfl
  · exact ⟨true, false, 1, by omega, rfl, one0_pc, one1_pc, fun a b => rfl, fun a b => rfl, fun t n r => ⟨rfl, rfl⟩⟩
  · exact ⟨false, true, 0, by omega, rfl, one1_pc, one0_pc, fun a b => rfl, fun a b => rfl, fun t n r => ⟨rfl, rfl⟩⟩
theorem TbOk.dr {t : Tb} (h : TbOk t) (i : Nat) : DrOk t.cols (drF t.a t.b i) := by unfold drF; split; exact h.a; exact h.b
theorem qDl.dr {t : Tb} {K : Int} (h : qDl t K) (i : Nat) : ∀ c ∈ drF t.a t.b i, c.full = true → keyN c.row < K := by
  intro c hc hf
  unfold drF at hc
  split at hc
  · exact h c (.inl hc) hf
  · exact h c (.inr hc) hf
end Go.Proofs.YtpaccaojgbfjdaaDoor

