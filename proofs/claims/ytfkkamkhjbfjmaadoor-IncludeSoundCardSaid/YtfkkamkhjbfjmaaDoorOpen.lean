/-
  Arguments opened: what a reading of an argument says of the cells in memory. It is the frame's first half for each type of parameter; no condition.
-/
import Derived.Test.YtfkkamkhjbfjmaaDoorMemG
import Derived.OpenShut
import Derived.Deep.Slices
import Derived.Deep.Fields
import Derived.SizedLaws
import Derived.ChangeOld
import Derived.ShutString
import Derived.Lib.SmallJoins
namespace Go.Proofs.YtfkkamkhjbfjmaaDoor
set_option linter.unusedSimpArgs false
set_option linter.unusedVariables false
open Go.RowKit Go.ChangeShapes Go.WideShapes Go.ChangeAt Go.Deep
open Go.ChangeMaps (open_string shut_string)

/-- A raw thing: kind, two numbers and a text. -/
structure Raw where
  kind : Int
  a : Int
  b : Int
  text : ByteArray
def Raw.cells (r : Raw) : List Value := [.int .i64 r.kind, .int .i64 r.a, .int .i64 r.b, .string r.text]
def I64 (n : Int) : Prop := -9223372036854775808 ≤ n ∧ n ≤ 9223372036854775807
structure Raw.ok (r : Raw) : Prop where
  kind : I64 r.kind
  a : I64 r.a
  b : I64 r.b
  text : r.text.size ≤ maxLen
instance : Inhabited Raw := ⟨⟨0, 0, 0, ByteArray.empty⟩⟩
theorem Raw.cells_len (r : Raw) : r.cells.length = 4 := rfl
theorem raws_len (l : List Raw) : (l.flatMap Raw.cells).length = l.length * 4 := by
  induction l with
  | nil => rfl
  | cons r l ih => rw [List.flatMap_cons, List.length_append, ih, Raw.cells_len, List.length_cons]; omega
theorem raws_at (l : List Raw) (i j : Nat) (hi : i < l.length) (hj : j < 4) : (l.flatMap Raw.cells)[i * 4 + j]? = (l[i]).cells[j]? := by
  induction l generalizing i with
  | nil => simp at hi
  | cons r l ih =>
    rw [List.flatMap_cons]
    cases i with
    | zero => rw [List.getElem?_append_left (by rw [Raw.cells_len]; omega)]; simp
    | succ i =>
      rw [List.getElem?_append_right (by rw [Raw.cells_len]; omega), Raw.cells_len, show (i + 1) * 4 + j - 4 = i * 4 + j by omega, ih i (by simpa using hi)]
      simp

/-- The slice '.slice A l.length c' reads as the raw things l. -/
def RdR (w : World) (B : Nat) (A : Option Addr) (l : List Raw) : Prop := Reads w B 4 A l.length (l.flatMap Raw.cells)
/-- The slice reads as the numbers l. -/
def RdI (w : World) (B : Nat) (A : Option Addr) (l : List Int) : Prop := Reads w B 1 A l.length (l.map (Value.int .i64))
section
variable {w w' : World} {B B' : Nat} {A : Option Addr} {l : List Raw}
theorem RdR.more (h : RdR w B A l) (hB : B ≤ B') : RdR w B' A l := Reads.more h hB
theorem RdR.below (h : RdR w B A l) (hb : Below B w w') : RdR w' B A l := Reads.below h hb
theorem RdR.call (h : RdR w B A l) (hb : Below w.heap.size w w') (hB : B ≤ w.heap.size) : RdR w' B A l := Reads.call h hb hB
theorem RdR.drew (h : RdR w B A l) : RdR w.drew B A l := h
theorem RdR.drewN (h : RdR w B A l) (k : Nat) : RdR (w.drewN k) B A l := h
theorem RdR.alloc (h : RdR w B A l) (hB : B ≤ w.heap.size) (o : Obj) : RdR (w.alloc o) B A l := Reads.alloc h hB o
theorem RdR.setCell (h : RdR w B A l) {p : Addr} (hB : B ≤ p.block) (u : Value) : RdR (w.setCell p u) B A l := Reads.setCell h hB u
theorem RdR.grown (h : RdR w B A l) {row : Option Nat} (hg : w.grownBy w' row) (hB : B ≤ w.heap.size) (hr : ∀ g, row = some g → B ≤ g) : RdR w' B A l := Reads.grown h hg hB hr
end
section
variable {w w' : World} {B B' : Nat} {A : Option Addr} {l : List Int}
theorem RdI.more (h : RdI w B A l) (hB : B ≤ B') : RdI w B' A l := Reads.more h hB
theorem RdI.below (h : RdI w B A l) (hb : Below B w w') : RdI w' B A l := Reads.below h hb
theorem RdI.call (h : RdI w B A l) (hb : Below w.heap.size w w') (hB : B ≤ w.heap.size) : RdI w' B A l := Reads.call h hb hB
theorem RdI.drew (h : RdI w B A l) : RdI w.drew B A l := h
theorem RdI.drewN (h : RdI w B A l) (k : Nat) : RdI (w.drewN k) B A l := h
theorem RdI.alloc (h : RdI w B A l) (hB : B ≤ w.heap.size) (o : Obj) : RdI (w.alloc o) B A l := Reads.alloc h hB o
theorem RdI.setCell (h : RdI w B A l) {p : Addr} (hB : B ≤ p.block) (u : Value) : RdI (w.setCell p u) B A l := Reads.setCell h hB u
theorem RdI.grown (h : RdI w B A l) {row : Option Nat} (hg : w.grownBy w' row) (hB : B ≤ w.heap.size) (hr : ∀ g, row = some g → B ≤ g) : RdI w' B A l := Reads.grown h hg hB hr
end

theorem i64_of_wf {n : Int} (h : (Lit.int .i64 n).wf = true) : I64 n := bounds_i64 h

section
variable {H : Type} {enc : TypeId × Value → H} {P : Program} {w : World} {base : Nat} {spare : Nat → Bool} {held : Bool}

theorem trod_raw {t ti ts : TypeId} {f0 f1 f2 f3 : Field} {fuel : Nat} {cs : List Value} {x : DataW H × List MemPlace} (hu : P.underlying t = some (.struct #[f0, f1, f2, f3])) (hone : oneCellFields P #[f0, f1, f2, f3] = true)
    (hC : P.cellsOf t = 4) (h0 : f0.type = ti) (h1 : f1.type = ti) (h2 : f2.type = ti) (h3 : f3.type = ts) (hi : P.underlying ti = some (.int .i64)) (hs : P.underlying ts = some .string)
    (h : DataW.trod enc P w base spare held fuel t cs = some x) : ∃ r : Raw, cs = r.cells ∧ r.ok := by
  obtain ⟨xs, n, _, _, hlen, hxl, hg⟩ := DataW.trod_struct hu h
  rw [hC] at hlen
  obtain ⟨c0, c1, c2, c3, rfl⟩ : ∃ a b c d, cs = [a, b, c, d] := by
    match cs, hlen with
    | [a, b, c, d], _ => exact ⟨a, b, c, d, rfl⟩
  have hxs : xs.length = 4 := by simpa using hxl
  obtain ⟨y0, y1, y2, y3, rfl⟩ : ∃ a b c d, xs = [a, b, c, d] := by
    match xs, hxs with
    | [a, b, c, d], _ => exact ⟨a, b, c, d, rfl⟩
  obtain ⟨o0, k0⟩ := hone_of hone 0 f0 rfl
  obtain ⟨o1, k1⟩ := hone_of hone 1 f1 rfl
  obtain ⟨o2, k2⟩ := hone_of hone 2 f2 rfl
  obtain ⟨o3, k3⟩ := hone_of hone 3 f3 rfl
  have g0 := hg 0 f0 rfl
  have g1 := hg 1 f1 rfl
  have g2 := hg 2 f2 rfl
  have g3 := hg 3 f3 rfl
  rw [o0, k0, h0] at g0
  rw [o1, k1, h1] at g1
  rw [o2, k2, h2] at g2
  rw [o3, k3, h3] at g3
  obtain ⟨n0, e0, _, b0⟩ := DataW.trod_int (x := y0) hi (by simpa using g0)
  obtain ⟨n1, e1, _, b1⟩ := DataW.trod_int (x := y1) hi (by simpa using g1)
  obtain ⟨n2, e2, _, b2⟩ := DataW.trod_int (x := y2) hi (by simpa using g2)
  obtain ⟨s3, e3, _, b3⟩ := DataW.trod_string (x := y3) hs (by simpa using g3)
  simp only [List.cons.injEq, and_true] at e0 e1 e2 e3
  subst e0 e1 e2 e3
  exact ⟨⟨n0, n1, n2, s3⟩, rfl, bounds_i64 b0, bounds_i64 b1, bounds_i64 b2, b3⟩

theorem open_raw {r : Reach} {b0 : Nat} {t ti ts : TypeId} {f0 f1 f2 f3 : Field} {v : Value} {d : DataW H} {p : List MemPlace} (hu : P.underlying t = some (.struct #[f0, f1, f2, f3])) (hone : oneCellFields P #[f0, f1, f2, f3] = true)
    (hC : P.cellsOf t = 4) (h0 : f0.type = ti) (h1 : f1.type = ti) (h2 : f2.type = ti) (h3 : f3.type = ts) (hi : P.underlying ti = some (.int .i64)) (hs : P.underlying ts = some .string)
    (hv : Value.okWide P w r b0 t v) (h : DataW.Trod enc P w base spare held t v d p) : ∃ r : Raw, v = .agg #[.int .i64 r.kind, .int .i64 r.a, .int .i64 r.b, .string r.text] ∧ r.ok := by
  obtain ⟨cs, rfl, _⟩ := okWide_struct hu hv
  obtain ⟨fuel, hf⟩ := h
  obtain ⟨r, e, ok⟩ := trod_raw hu hone hC h0 h1 h2 h3 hi hs hf
  refine ⟨r, ?_, ok⟩
  simp only [Value.cells, Raw.cells] at e
  congr 1
  apply Array.ext'
  simpa using e

theorem open_raws {r : Reach} {b0 : Nat} {t e ti ts : TypeId} {f0 f1 f2 f3 : Field} {v : Value} {d : DataW H} {p : List MemPlace} (ht : P.underlying t = some (.slice e)) (hu : P.underlying e = some (.struct #[f0, f1, f2, f3]))
    (hone : oneCellFields P #[f0, f1, f2, f3] = true)
    (hC : P.cellsOf e = 4) (h0 : f0.type = ti) (h1 : f1.type = ti) (h2 : f2.type = ti) (h3 : f3.type = ts) (hi : P.underlying ti = some (.int .i64)) (hs : P.underlying ts = some .string)
    (hv : Value.okWide P w r b0 t v) (h : DataW.Trod enc P w base (fun _ => true) held t v d p) (hlt : ∀ x ∈ p, x.block < w.heap.size) :
    ∃ (A : Option Addr) (l : List Raw) (c : Nat), v = .slice A l.length c ∧ RdR w w.heap.size A l ∧ l.length ≤ c ∧ c ≤ maxLen ∧ (∀ r ∈ l, r.ok) ∧
      (d = .nil ∧ c = 0 ∨ ∃ es sp, d = .slice es sp ∧ es.length + sp.length = c) := by
  obtain ⟨A, len, cap, rfl⟩ := okWide_slice ht hv
  obtain ⟨fuel, hf⟩ := h
  rcases open_slice ht hf with ⟨hcs, hx⟩ | ⟨a, len', cap', m, n, D, Pl, hcs, _, hl, hm, hmm, hx, hat⟩
  · simp [Value.cells] at hcs hx
    obtain ⟨rfl, rfl, rfl⟩ := hcs
    exact ⟨none, [], 0, rfl, Reads.none_, by simp, by simp [maxLen], by simp, .inl ⟨hx.1, rfl⟩⟩
  · simp [Value.cells] at hcs
    obtain ⟨rfl, rfl, rfl⟩ := hcs
    simp at hmm
    subst hmm
    have hraw : ∀ i, i < m → ∃ r : Raw, (∀ j, j < 4 → w.cell? (a.add (i * 4 + j)) = r.cells[j]?) ∧ r.ok := by
      intro i him
      obtain ⟨cs', hc, ht'⟩ := hat i him
      rw [hC] at hc
      obtain ⟨r, rfl, ok⟩ := trod_raw hu hone hC h0 h1 h2 h3 hi hs ht'
      obtain ⟨_, _, hcell⟩ := World.cells?_some hc
      refine ⟨r, fun j hj => ?_, ok⟩
      rw [← Go.Deep.add_add, hcell j hj]
    obtain ⟨F, hF⟩ := choose_lt (p := fun i (r : Raw) => (∀ j, j < 4 → w.cell? (a.add (i * 4 + j)) = r.cells[j]?) ∧ r.ok) (n := m) hraw
    have hll : ((List.range len).map F).length = len := by simp
    simp only [Prod.mk.injEq] at hx
    refine ⟨some a, (List.range len).map F, m, by rw [hll], ⟨by rw [raws_len], fun hn => ⟨a, rfl, ?_, fun j u hu => ?_⟩⟩, by rw [hll]; exact hl, hm, ?_, .inr ⟨_, _, hx.1, by simp; omega⟩⟩
    · have hmem : (MemPlace.row a (m * P.cellsOf e) ++ List.flatMap Pl (List.range m)) ⊆ p := by rw [hx.2]; exact List.Subset.refl _
      have hm0 : 0 < m * P.cellsOf e := by rw [hC]; rw [hll] at hn; omega
      have h1 : ∃ x ∈ MemPlace.row a (m * P.cellsOf e), x.block = a.block := by
        refine ⟨MemPlace.cell a.block a.off, ?_, rfl⟩
        simp only [MemPlace.row, List.mem_map, List.mem_range]
        exact ⟨0, hm0, by simp⟩
      obtain ⟨x, hx1, hx2⟩ := h1
      rw [← hx2]
      exact hlt x (hmem (List.mem_append_left _ hx1))
    · have hj : j < ((List.range len).map F).length * 4 := by
        have := (List.getElem?_eq_some_iff.1 hu).1
        rwa [raws_len] at this
      rw [hll] at hj
      have hq := raws_at ((List.range len).map F) (j / 4) (j % 4) (by rw [hll]; omega) (by omega)
      rw [show j / 4 * 4 + j % 4 = j by omega, hu] at hq
      have := (hF (j / 4) (by omega)).1 (j % 4) (by omega)
      rw [show j / 4 * 4 + j % 4 = j by omega] at this
      rw [this, hq]
      simp
    · intro r hr
      obtain ⟨i, hi', rfl⟩ := List.mem_map.1 hr
      exact (hF i (by have := List.mem_range.1 hi'; omega)).2

theorem open_bytes {r : Reach} {b0 : Nat} {t e : TypeId} {v : Value} {d : DataW H} {p : List MemPlace} (ht : P.underlying t = some (.slice e)) (he : P.underlying e = some (.int .u8)) (hC : P.cellsOf e = 1)
    (hv : Value.okWide P w r b0 t v) (h : DataW.Trod enc P w base (fun _ => true) held t v d p) (hlt : ∀ x ∈ p, x.block < w.heap.size) :
    ∃ (A : Option Addr) (l : List UInt8) (c : Nat), v = .slice A l.length c ∧ RdB w w.heap.size A l ∧ l.length ≤ c ∧ c ≤ maxLen ∧ (d = .nil ∧ c = 0 ∨ ∃ es sp, d = .slice es sp ∧ es.length + sp.length = c) := by
  obtain ⟨A, len, cap, rfl⟩ := okWide_slice ht hv
  obtain ⟨fuel, hf⟩ := h
  rcases open_ints ht he hC hf with ⟨hcs, hx⟩ | ⟨a, len', cap', zs, hcs, _, hl, hm, hz, hx, hcell, hwz⟩
  · simp [Value.cells] at hcs hx
    obtain ⟨rfl, rfl, rfl⟩ := hcs
    exact ⟨none, [], 0, rfl, Reads.none_, by simp, by simp [maxLen], .inl ⟨hx.1, rfl⟩⟩
  · simp [Value.cells] at hcs
    obtain ⟨rfl, rfl, rfl⟩ := hcs
    simp at hz
    have hll : ((zs.take len).map fun z => UInt8.ofNat z.toNat).length = len := by simp; omega
    simp only [Prod.mk.injEq] at hx
    refine ⟨some a, (zs.take len).map fun z => UInt8.ofNat z.toNat, cap, by rw [hll], ⟨by rw [List.length_map, Nat.mul_one], fun hn => ⟨a, rfl, ?_, fun j u hu => ?_⟩⟩, by rw [hll]; exact hl, hm, .inr ⟨_, _, hx.1, by simp [lits]; omega⟩⟩
    · rw [hll] at hn
      have h1 : ∃ x ∈ MemPlace.row a zs.length, x.block = a.block := by
        refine ⟨MemPlace.cell a.block a.off, ?_, rfl⟩
        simp only [MemPlace.row, List.mem_map, List.mem_range]
        exact ⟨0, by omega, by simp⟩
      obtain ⟨x, hx1, hx2⟩ := h1
      rw [← hx2]
      exact hlt x (by rw [hx.2]; exact hx1)
    · rw [List.getElem?_map, List.getElem?_map, List.getElem?_take] at hu
      split at hu
      · rename_i hjl
        have hjz : j < zs.length := by omega
        rw [List.getElem?_eq_getElem hjz] at hu
        simp only [Option.map_some, Option.some.injEq] at hu
        subst hu
        have := hcell j hjz
        rw [this, List.getD_eq_getElem?_getD, List.getElem?_eq_getElem hjz]
        have hb := bounds_u8 (hwz zs[j] (List.getElem_mem hjz))
        simp only [Option.getD_some, B8]
        congr 2
        rw [UInt8.toNat_ofNat']
        omega
      · simp at hu

theorem open_nums {r : Reach} {b0 : Nat} {t e : TypeId} {v : Value} {d : DataW H} {p : List MemPlace} (ht : P.underlying t = some (.slice e)) (he : P.underlying e = some (.int .i64)) (hC : P.cellsOf e = 1)
    (hv : Value.okWide P w r b0 t v) (h : DataW.Trod enc P w base (fun _ => true) held t v d p) (hlt : ∀ x ∈ p, x.block < w.heap.size) :
    ∃ (A : Option Addr) (l : List Int) (c : Nat), v = .slice A l.length c ∧ RdI w w.heap.size A l ∧ l.length ≤ c ∧ c ≤ maxLen ∧ (∀ n ∈ l, I64 n) ∧ (d = .nil ∧ c = 0 ∨ ∃ es sp, d = .slice es sp ∧ es.length + sp.length = c) := by
  obtain ⟨A, len, cap, rfl⟩ := okWide_slice ht hv
  obtain ⟨fuel, hf⟩ := h
  rcases open_ints ht he hC hf with ⟨hcs, hx⟩ | ⟨a, len', cap', zs, hcs, _, hl, hm, hz, hx, hcell, hwz⟩
  · simp [Value.cells] at hcs hx
    obtain ⟨rfl, rfl, rfl⟩ := hcs
    exact ⟨none, [], 0, rfl, Reads.none_, by simp, by simp [maxLen], by simp, .inl ⟨hx.1, rfl⟩⟩
  · simp [Value.cells] at hcs
    obtain ⟨rfl, rfl, rfl⟩ := hcs
    simp at hz
    have hll : (zs.take len).length = len := by simp; omega
    simp only [Prod.mk.injEq] at hx
    refine ⟨some a, zs.take len, cap, by rw [hll], ⟨by rw [List.length_map, Nat.mul_one], fun hn => ⟨a, rfl, ?_, fun j u hu => ?_⟩⟩, by rw [hll]; exact hl, hm, ?_, .inr ⟨_, _, hx.1, by simp [lits]; omega⟩⟩
    · rw [hll] at hn
      have h1 : ∃ x ∈ MemPlace.row a zs.length, x.block = a.block := by
        refine ⟨MemPlace.cell a.block a.off, ?_, rfl⟩
        simp only [MemPlace.row, List.mem_map, List.mem_range]
        exact ⟨0, by omega, by simp⟩
      obtain ⟨x, hx1, hx2⟩ := h1
      rw [← hx2]
      exact hlt x (by rw [hx.2]; exact hx1)
    · rw [List.getElem?_map, List.getElem?_take] at hu
      split at hu
      · rename_i hjl
        have hjz : j < zs.length := by omega
        rw [List.getElem?_eq_getElem hjz] at hu
        simp only [Option.map_some, Option.some.injEq] at hu
        subst hu
        have := hcell j hjz
        rw [this, List.getD_eq_getElem?_getD, List.getElem?_eq_getElem hjz]
        simp
      · simp at hu
    · exact fun n hn => bounds_i64 (hwz n (List.mem_of_mem_take hn))

theorem okWide_arr {n : Nat} {e : TypeId} {r : Reach} {b0 : Nat} {t : TypeId} {v : Value} (ht : P.underlying t = some (.array n e)) (h : Value.okWide P w r b0 t v) : ∃ cs, v = .agg cs ∧ cs.size = P.cellsOf t := by
  simp only [Value.okWide, ht] at h
  obtain ⟨cs, h1, h2, _⟩ := h
  exact ⟨cs, h1, h2⟩
/-- An array of four bytes, by value. -/
theorem open_arr4 {r : Reach} {b0 : Nat} {t e : TypeId} {v : Value} {d : DataW H} {p : List MemPlace} (ht : P.underlying t = some (.array 4 e)) (he : P.underlying e = some (.int .u8)) (hC : P.cellsOf e = 1) (hT : P.cellsOf t = 4)
    (hv : Value.okWide P w r b0 t v) (h : DataW.Trod enc P w base spare held t v d p) : ∃ a b x y : UInt8, v = .agg #[B8 a, B8 b, B8 x, B8 y] := by
  obtain ⟨cs, rfl, hsz⟩ := okWide_arr ht hv
  obtain ⟨c0, c1, c2, c3, rfl⟩ := Joins.array4 (hsz.trans hT)
  obtain ⟨fuel, hf⟩ := h
  obtain ⟨xs, m, _, _, hlen, hxl, hg⟩ := DataW.trod_array ht hf
  obtain ⟨y0, y1, y2, y3, rfl⟩ : ∃ a b c d, xs = [a, b, c, d] := by
    match xs, hxl with
    | [a, b, c, d], _ => exact ⟨a, b, c, d, rfl⟩
  have g0 := hg 0 (by omega)
  have g1 := hg 1 (by omega)
  have g2 := hg 2 (by omega)
  have g3 := hg 3 (by omega)
  rw [hC] at g0 g1 g2 g3
  obtain ⟨n0, e0, _, b0⟩ := DataW.trod_int (x := y0) he (by simpa [Value.cells] using g0)
  obtain ⟨n1, e1, _, b1⟩ := DataW.trod_int (x := y1) he (by simpa [Value.cells] using g1)
  obtain ⟨n2, e2, _, b2⟩ := DataW.trod_int (x := y2) he (by simpa [Value.cells] using g2)
  obtain ⟨n3, e3, _, b3⟩ := DataW.trod_int (x := y3) he (by simpa [Value.cells] using g3)
  simp at e0 e1 e2 e3
  subst e0 e1 e2 e3
  have hb : ∀ n : Int, (Lit.int .u8 n).wf = true → Value.int .u8 n = B8 (UInt8.ofNat n.toNat) := fun n hn => by
    have := bounds_u8 hn
    unfold B8
    congr 1
    rw [UInt8.toNat_ofNat']
    omega
  exact ⟨_, _, _, _, by rw [hb _ b0, hb _ b1, hb _ b2, hb _ b3]⟩

/-- What the reach of the form says of a slice's capacity. -/
theorem reach_slice {ts : List TypeId} {ds : List (DataW H)} (h : (DataW.weightsEach P ts ds).all (· ≤ reachBytes) = true) {j : Nat} {t e : TypeId} {d : DataW H} {c size : Nat} (ht : ts[j]? = some t) (hd : ds[j]? = some d) (hu : P.underlying t = some (.slice e))
    (hb : P.bytesOf e = size) (hc : d = .nil ∧ c = 0 ∨ ∃ es sp, d = .slice es sp ∧ es.length + sp.length = c) : c * size ≤ 140737488351232 := by
  rcases hc with ⟨_, rfl⟩ | ⟨es, sp, rfl, rfl⟩
  · omega
  · have := sized_slice h ht hd hu
    rw [hb] at this
    exact this
end
end Go.Proofs.YtfkkamkhjbfjmaaDoor
