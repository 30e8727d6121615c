/-
  Rows that go and rows that stay are all. No program in sight.
-/
import Derived.Test.YtpaccaojgbfjdaaDoorZRiseL
import Derived.Test.YtpaccaojgbfjdaaDoorZTbD
set_option linter.unusedSimpArgs false
set_option linter.unusedVariables false
namespace Go.Proofs.YtpaccaojgbfjdaaDoor
open Go.RowKit

theorem delD_all (y : List Vl → Bool) {d : List Ce} (h : d.length = 4) : delD y d 4 = d.map (delC y) := by
  unfold delD
  rw [List.take_of_length_le (by omega), List.drop_eq_nil_of_le (by omega), List.append_nil]
theorem qEN {y : List Vl → Bool} {c : Ce} (h : (delC y c).full = true) : delC y c = c ∧ c.full = true ∧ y c.row = false := by
  unfold delC at *
  cases hg : goB y c with
  | true => rw [hg, if_pos rfl] at h; cases h
  | false =>
    rw [hg, if_neg (by decide)] at h
    refine ⟨by rw [if_neg (by decide)], h, ?_⟩
    unfold goB at hg
    rw [h, Bool.true_and] at hg
    exact hg
theorem delC_stay {y : List Vl → Bool} {c : Ce} (h : y c.row = false) : delC y c = c := by
  unfold delC goB
  rw [h, Bool.and_false, if_neg (by decide)]
theorem del_ok {cols : List Cl} {d : List Ce} (h : DrOk cols d) (y : List Vl → Bool) : DrOk cols (d.map (delC y)) := by
  refine ⟨by rw [List.length_map]; exact h.len, fun c hc => ?_, ?_⟩
  · obtain ⟨e, he, rfl⟩ := List.mem_map.1 hc
    have ho := h.ok e he
    cases hf : (delC y e).full with
    | true =>
      have := qEN hf
      rw [this.1]
      exact ho
    | false =>
      refine ⟨fun h => (by rw [hf] at h; cases h), fun _ => ?_⟩
      unfold delC at *
      split
      · rfl
      · rename_i hg
        rw [if_neg hg] at hf
        exact ho.none hf
  · rw [List.pairwise_map]
    refine h.keys.imp fun {a b} hab hfa hfb => ?_
    obtain ⟨ea, fa, _⟩ := qEN hfa
    obtain ⟨eb, fb, _⟩ := qEN hfb
    rw [ea, eb]
    exact hab fa fb
theorem step_del {cols : List Cl} {d : List Ce} (h : DrOk cols d) (y : List Vl → Bool) : qBS true (d.map (delC y)) [] = (qBS true d []).filter (fun r => !y r) := by
  obtain ⟨r1, m1⟩ := qB7 h
  obtain ⟨r2, m2⟩ := qB7 (del_ok h y)
  refine rise_eq r2 (List.Pairwise.filter _ r1) fun x => ?_
  rw [m2, List.mem_filter, m1]
  constructor
  · rintro ⟨c, hc, hf, hx⟩
    obtain ⟨e, he, rfl⟩ := List.mem_map.1 hc
    obtain ⟨h1, h2, h3⟩ := qEN hf
    rw [h1] at hx
    subst hx
    exact ⟨⟨e, he, h2, rfl⟩, by rw [h3]; rfl⟩
  · rintro ⟨⟨c, hc, hf, rfl⟩, hy⟩
    have hy : y c.row = false := by simpa using hy
    have := delC_stay (c := c) hy
    exact ⟨c, List.mem_map.2 ⟨c, hc, this⟩, hf, rfl⟩
theorem len_split {α : Type} (p : α → Bool) : ∀ l : List α, l.length = (l.filter p).length + (l.filter fun x => !p x).length
  | [] => rfl
  | x :: l => by
    have ih := len_split p l
    cases hp : p x with
    | true =>
      rw [List.filter_cons_of_pos hp, List.filter_cons_of_neg (by rw [hp]; decide), List.length_cons, List.length_cons]
      omega
    | false =>
      rw [List.filter_cons_of_neg (by rw [hp]; decide), List.filter_cons_of_pos (by rw [hp]; rfl), List.length_cons, List.length_cons]
      omega
theorem del_count {cols : List Cl} {d : List Ce} (h : DrOk cols d) (y : List Vl → Bool) : delN y d 4 + ((qBS true d []).filter fun r => !y r).length = (qBS true d []).length := by
  obtain ⟨r1, m1⟩ := qB7 h
  have hA : (qBS true d []).Nodup := r1.imp fun {a b} hab e => by
    subst e
    exact absurd hab (by omega)
  have hR : ((d.filter fun c => c.full).map fun c => c.row).Nodup := by
    show List.Pairwise _ _
    rw [List.pairwise_map, List.pairwise_filter]
    refine h.keys.imp fun {a b} hab ha hb e => ?_
    exact hab ha hb (by rw [e])
  have hp : (qBS true d []).Perm ((d.filter fun c => c.full).map fun c => c.row) := (List.perm_ext_iff_of_nodup hA hR).2 fun x => by
    rw [m1, List.mem_map]
    constructor
    · rintro ⟨c, hc, hf, hx⟩
      exact ⟨c, List.mem_filter.2 ⟨hc, hf⟩, hx⟩
    · rintro ⟨c, hc, hx⟩
      exact ⟨c, (List.mem_filter.1 hc).1, (List.mem_filter.1 hc).2, hx⟩
  have h1 := (hp.filter y).length_eq
  have h2 : delN y d 4 = ((qBS true d []).filter y).length := by
    rw [h1, List.filter_map, List.length_map, List.filter_filter]
    unfold delN
    rw [List.take_of_length_le (by rw [h.len]; omega)]
    congr 1
    refine List.filter_congr fun c _ => ?_
    unfold goB
    exact Bool.and_comm _ _
  rw [h2]
  exact (len_split y _).symm
end Go.Proofs.YtpaccaojgbfjdaaDoor

