/-
  A parameter that is a list of texts of bytes, opened, with the sizes of the texts. No condition.
-/
import Derived.Test.YtagbajdjpfafoaaDoorZOpenL
import Derived.SizedLaws
namespace Go.Proofs.YtagbajdjpfafoaaDoor
set_option linter.unusedSimpArgs false
set_option linter.unusedVariables false
open Go.RowKit Go.ChangeShapes Go.WideShapes Go.ChangeAt Go.Deep

section
variable {H : Type} {enc : TypeId × Value → H} {P : Program} {w : World} {base : Nat} {held : Bool}
theorem weightsAll_mem {e : TypeId} {d : DataW H} {n : Nat} (hn : n ∈ d.weights P e) : ∀ {ds : List (DataW H)}, d ∈ ds → n ∈ DataW.weightsAll P e ds
  | x :: ds, h => by
    simp only [DataW.weightsAll, List.mem_append]
    rcases List.mem_cons.1 h with rfl | h
    · exact .inl hn
    · exact .inr (weightsAll_mem hn h)
theorem open_bytes_w {t e : TypeId} {fuel : Nat} {cs : List Value} {d : DataW H} {p : List MemPlace} (ht : P.underlying t = some (.slice e)) (he : P.underlying e = some (.int .u8)) (hC : P.cellsOf e = 1) (hB : P.bytesOf e = 1)
    (hf : DataW.trod enc P w base (fun _ => true) held fuel t cs = some (d, p)) (hlt : ∀ x ∈ p, x.block < w.heap.size) (hwt : ∀ n ∈ d.weights P t, n ≤ reachBytes) :
    ∃ (A : Option Addr) (l : List UInt8) (c : Nat), cs = [.slice A l.length c] ∧ RdB w w.heap.size A l ∧ l.length ≤ c ∧ l.length ≤ 140737488351232 := by
  obtain ⟨A, l, c, h1, h2, h3⟩ := open_bytes_c ht he hC hf hlt
  refine ⟨A, l, c, h1, h2, h3, ?_⟩
  rcases open_ints ht he hC hf with ⟨hcs, hx⟩ | ⟨a, len, cap, zs, hcs, _, hl, hm, hz, hx, hcell, hwz⟩
  · rw [hcs] at h1
    injection h1 with h1 _
    injection h1 with _ h1 _
    omega
  · rw [hcs] at h1
    injection h1 with h1 _
    injection h1 with _ h1 _
    simp at hz
    simp only [Prod.mk.injEq] at hx
    have := hwt (((lits (H := H) .u8 (zs.take len)).length + (lits (H := H) .u8 (zs.drop len)).length) * P.bytesOf e) (by
      rw [hx.1]
      simp only [DataW.weights, ht]
      exact List.mem_cons_self)
    rw [hB] at this
    simp only [lits, List.length_map, List.length_take, List.length_drop, reachBytes] at this
    omega
theorem open_lists_w {r : Reach} {b0 : Nat} {t e eb : TypeId} {v : Value} {d : DataW H} {p : List MemPlace} (ht : P.underlying t = some (.slice e)) (he : P.underlying e = some (.slice eb)) (hb : P.underlying eb = some (.int .u8)) (hC : P.cellsOf e = 1) (hCb : P.cellsOf eb = 1)
    (hB : P.bytesOf eb = 1) (hwt : ∀ n ∈ d.weights P t, n ≤ reachBytes) (hv : Value.okWide P w r b0 t v) (h : DataW.Trod enc P w base (fun _ => true) held t v d p) (hlt : ∀ x ∈ p, x.block < w.heap.size) :
    ∃ (A : Option Addr) (l : List (List UInt8)) (c : Nat), v = .slice A l.length c ∧ RepD (Lt w) w (.sl 1 (l.map fun p => [byD p])) (.slice A l.length c) ∧ l.length ≤ c ∧ c ≤ maxLen ∧ (∀ q ∈ l, q.length ≤ 140737488351232) ∧ (d = .nil ∧ c = 0 ∨ ∃ es sp, d = .slice es sp ∧ es.length + sp.length = c) := by
  obtain ⟨A, len, cap, rfl⟩ := okWide_slice ht hv
  obtain ⟨fuel, hf⟩ := h
  rcases open_slice ht hf with ⟨hcs, hx⟩ | ⟨a, len', cap', m, n, D, Pl, hcs, _, hl, hm, hmm, hx, hat⟩
  · simp [Value.cells] at hcs hx
    obtain ⟨rfl, rfl, rfl⟩ := hcs
    exact ⟨none, [], 0, rfl, ⟨none, 0, [], rfl, Nat.le_refl _, rfl, fun h => absurd h (by simp)⟩, by simp, by simp [maxLen], by simp, .inl ⟨hx.1, rfl⟩⟩
  · simp [Value.cells] at hcs
    obtain ⟨rfl, rfl, rfl⟩ := hcs
    simp at hmm
    subst hmm
    simp only [Prod.mk.injEq] at hx
    have hsub : ∀ i, i < m → ∀ x ∈ Pl i, x.block < w.heap.size := fun i hi x hx' => hlt x (by
      rw [hx.2]
      exact List.mem_append_right _ (List.mem_flatMap.2 ⟨i, List.mem_range.2 hi, hx'⟩))
    have hone : ∀ i, i < m → ∃ T : Option Addr × List UInt8 × Nat, w.cell? (a.add i) = some (.slice T.1 T.2.1.length T.2.2) ∧ RdB w w.heap.size T.1 T.2.1 ∧ T.2.1.length ≤ T.2.2 ∧ T.2.1.length ≤ 140737488351232 := by
      intro i him
      obtain ⟨cs', hc, ht'⟩ := hat i him
      rw [hC] at hc
      obtain ⟨A', l', c', rfl, h2, h3, h4⟩ := open_bytes_w he hb hCb hB ht' (hsub i him) (fun n hn => hwt n (by
        rw [hx.1]
        simp only [DataW.weights, ht, List.mem_cons, List.mem_append]
        rcases Nat.lt_or_ge i len with hil | hil
        · exact .inr (.inl (weightsAll_mem hn (List.mem_map.2 ⟨i, List.mem_range.2 hil, rfl⟩)))
        · exact .inr (.inr (weightsAll_mem hn (List.mem_map.2 ⟨i - len, List.mem_range.2 (by omega), by rw [show len + (i - len) = i by omega]⟩)))))
      obtain ⟨_, _, hcell⟩ := World.cells?_some hc
      have := hcell 0 (by omega)
      rw [Nat.mul_one, Go.Deep.add_add, Nat.add_zero] at this
      exact ⟨(A', l', c'), this, h2, h3, h4⟩
    obtain ⟨F, hF⟩ := choose_lt (p := fun i (T : Option Addr × List UInt8 × Nat) => w.cell? (a.add i) = some (.slice T.1 T.2.1.length T.2.2) ∧ RdB w w.heap.size T.1 T.2.1 ∧ T.2.1.length ≤ T.2.2 ∧ T.2.1.length ≤ 140737488351232) (n := m) hone
    have hll : (((List.range len).map F).map (·.2.1)).length = len := by simp
    have hrd : Reads w w.heap.size 1 (some a) len (((List.range len).map F).map fun t => Value.slice t.1 t.2.1.length t.2.2) := by
      refine ⟨by simp, fun hn => ⟨a, rfl, ?_, fun j u hu => ?_⟩⟩
      · have hm0 : 0 < m * P.cellsOf e := by rw [hC]; omega
        have h1 : ∃ x ∈ MemPlace.row a (m * P.cellsOf e), x.block = a.block := by
          refine ⟨MemPlace.cell a.block a.off, ?_, rfl⟩
          simp only [MemPlace.row, List.mem_map, List.mem_range]
          exact ⟨0, hm0, by simp⟩
        obtain ⟨x, hx1, hx2⟩ := h1
        rw [← hx2]
        exact hlt x (by rw [hx.2]; exact List.mem_append_left _ hx1)
      · rw [List.getElem?_map, List.getElem?_map] at hu
        have hj : j < len := by
          rcases Nat.lt_or_ge j len with h | h
          · exact h
          · rw [List.getElem?_eq_none (by simpa using h)] at hu; cases hu
        rw [List.getElem?_range hj] at hu
        simp only [Option.map_some, Option.some.injEq] at hu
        rw [← hu]
        exact (hF j (by omega)).1
    refine ⟨some a, ((List.range len).map F).map (·.2.1), m, by rw [hll], ?_, by rw [hll]; exact hl, hm, fun q hq => ?_, .inr ⟨_, _, hx.1, by simp; omega⟩⟩
    rotate_left 1
    · obtain ⟨T, hT, rfl⟩ := List.mem_map.1 hq
      obtain ⟨i, hi, rfl⟩ := List.mem_map.1 hT
      exact (hF i (by have := List.mem_range.1 hi; omega)).2.2.2
    have hR := repR_lists (w := w) ((List.range len).map F) fun t ht => by
      obtain ⟨i, hi, rfl⟩ := List.mem_map.1 ht
      exact ⟨(hF i (by have := List.mem_range.1 hi; omega)).2.1, (hF i (by have := List.mem_range.1 hi; omega)).2.2.1⟩
    refine ⟨some a, m, _, by simp, by rw [List.length_map, hll]; exact hl, hR, fun h0 => ?_⟩
    rw [List.length_map, hll] at h0
    obtain ⟨b, off, e1, hb1, _, hj⟩ := Reads.cell hrd (j := 0) (by simpa using h0)
    refine ⟨b, off, e1, hb1, fun j u hu => ?_⟩
    obtain ⟨hlt', _⟩ := List.getElem?_eq_some_iff.1 hu
    rw [hj j hlt', hu]
end
end Go.Proofs.YtagbajdjpfafoaaDoor
