/-
  Small lemmas for all walks of this seat: an ending, a remainder, the number that 'picked' picks. It needs no condition of its own.
-/
import Derived.Test.YtlpnnnmdkglkcaaDoorRows
import Derived.WalkKit
import Derived.ProofKit
import Derived.Handy
import Derived.Outline
import Derived.WalkSpells
import Derived.WalkLawsBesides
import Derived.Deep.QuietTactic
import Derived.BigQuiet
import Derived.Lib.Hide
import Derived.Below
import Derived.Laws.OwnMore
import Derived.Deep.AppendLies
import Derived.Deep.Draws
import Derived.Laws.Rows
import Derived.Laws.MakeOwn
import Derived.OwnWalk
import Derived.Laws.BytesArg
import Derived.Laws.BytesString
import Derived.OpenShut
import Derived.Deep.Slices
import Derived.Deep.Fields
import Derived.SizedLaws
import Derived.ChangeOld
import Derived.ShutString
import Derived.Lib.SmallJoins
set_option linter.unusedSimpArgs false
set_option linter.unusedVariables false
namespace Go.Proofs.YtlpnnnmdkglkcaaDoor
open Go.RowKit

theorem emod_in (n m : Int) (hm : 0 < m) : 0 ≤ n % m ∧ n % m < m := ⟨Int.emod_nonneg n (show m ≠ 0 by omega), Int.emod_lt_of_pos n hm⟩

end Go.Proofs.YtlpnnnmdkglkcaaDoor


/-
  Slices that read as lists, blocks that are known whole: words for memory that all walks of this seat share. No condition.
-/
namespace Go.Proofs.YtlpnnnmdkglkcaaDoor
open Go.RowKit

theorem block_of_add (a : Addr) (n : Nat) : (a.add n).block = a.block := by unfold Addr.add; split <;> rfl
def qBw (w : World) (B size : Nat) (A : Option Addr) (n : Nat) (xs : List Value) : Prop :=
  xs.length = n * size ∧ (0 < n → ∃ ad, A = some ad ∧ ad.block < B ∧ ∀ j u, xs[j]? = some u → w.cell? (ad.add j) = some u)

section
variable {w w' : World} {B B' size n : Nat} {A : Option Addr} {xs : List Value}
theorem qBw.none_ : qBw w B size A 0 [] := ⟨by simp, fun h => absurd h (by omega)⟩
theorem qBw.at_ {k : Nat} (h : qBw w B 1 A n xs) (hk : k < n) : ∃ b off u, A = some ⟨b, off, none⟩ ∧ b < B ∧ xs[k]? = some u ∧ w.cell? ⟨b, off + k, none⟩ = some u := by
  obtain ⟨ad, e, hb, hc⟩ := h.2 (by omega)
  have hl : k < xs.length := by have := h.1; omega
  have h0 := hc k _ (List.getElem?_eq_getElem hl)
  have h00 := hc 0 _ (List.getElem?_eq_getElem (by omega))
  obtain ⟨b, off, spot⟩ := ad
  have hs : spot = none := by
    have := World.cell?_spot h00
    simpa [Addr.add] using this
  subst hs
  have e2 : (⟨b, off, none⟩ : Addr).add k = ⟨b, off + k, none⟩ := by unfold Addr.add; split <;> simp_all
  rw [e2] at h0
  exact ⟨b, off, xs[k], e, hb, List.getElem?_eq_getElem hl, h0⟩
theorem qBw.cell {j : Nat} (h : qBw w B size A n xs) (hj : j < xs.length) : ∃ b off, A = some ⟨b, off, none⟩ ∧ b < B ∧ w.cell? ⟨b, off + j, none⟩ = xs[j]? ∧ (∀ i, i < xs.length → w.cell? ⟨b, off + i, none⟩ = xs[i]?) := by
  have hn : 0 < n := by
    rcases Nat.eq_zero_or_pos n with h0 | h0
    · have := h.1; rw [h0] at this; omega
    · exact h0
  obtain ⟨ad, e, hb, hc⟩ := h.2 hn
  obtain ⟨b, off, spot⟩ := ad
  have h0 := hc 0 _ (List.getElem?_eq_getElem (by omega))
  have hs : spot = none := by
    have := World.cell?_spot h0
    simpa [Addr.add] using this
  subst hs
  have e2 : ∀ k, (⟨b, off, none⟩ : Addr).add k = ⟨b, off + k, none⟩ := by intro k; unfold Addr.add; split <;> simp_all
  have hall : ∀ i, i < xs.length → w.cell? ⟨b, off + i, none⟩ = xs[i]? := fun i hi => by
    have := hc i _ (List.getElem?_eq_getElem hi)
    rw [e2] at this
    rw [this, List.getElem?_eq_getElem hi]
  exact ⟨b, off, e, hb, hall j hj, hall⟩
theorem qBw.keep (h : qBw w B size A n xs) (hk : ∀ p : Addr, p.block < B → w'.cell? p = w.cell? p) : qBw w' B size A n xs :=
  ⟨h.1, fun hn => by
    obtain ⟨ad, e, hb, hc⟩ := h.2 hn
    exact ⟨ad, e, hb, fun j u hu => (hk _ (by rw [block_of_add]; exact hb)).trans (hc j u hu)⟩⟩
theorem qBw.more (h : qBw w B size A n xs) (hB : B ≤ B') : qBw w B' size A n xs :=
  ⟨h.1, fun hn => by
    obtain ⟨ad, e, hb, hc⟩ := h.2 hn
    exact ⟨ad, e, by omega, hc⟩⟩
theorem qBw.below (h : qBw w B size A n xs) (hb : Below B w w') : qBw w' B size A n xs := h.keep fun _ hp => hb.cell hp
theorem qBw.call (h : qBw w B size A n xs) (hb : Below w.heap.size w w') (hB : B ≤ w.heap.size) : qBw w' B size A n xs := h.below (hb.mono hB)
theorem qBw.drewN (h : qBw w B size A n xs) (k : Nat) : qBw (w.drewN k) B size A n xs := h
theorem qBw.alloc (h : qBw w B size A n xs) (hB : B ≤ w.heap.size) (o : Obj) : qBw (w.alloc o) B size A n xs := h.keep fun p hp => World.cell?_alloc_lt w o p (by omega)
theorem qBw.setCell (h : qBw w B size A n xs) {p : Addr} (hB : B ≤ p.block) (u : Value) : qBw (w.setCell p u) B size A n xs :=
  h.keep fun q hq => World.cell?_setCell_other w p q u (fun e => by subst e; omega)
theorem qBw.take (h : qBw w B size A n xs) {k : Nat} (hk : k ≤ n) : qBw w B size A k (xs.take (k * size)) := by
  refine ⟨by rw [List.length_take, h.1]; exact Nat.min_eq_left (Nat.mul_le_mul_right _ hk), fun hn => ?_⟩
  obtain ⟨ad, rfl, hb, hcell⟩ := h.2 (by omega)
  refine ⟨ad, rfl, hb, fun j u hu => ?_⟩
  rw [List.getElem?_take] at hu
  split at hu
  · exact hcell j u hu
  · cases hu
end

def Blk (w : World) (g : Nat) (t : TypeId) (cs : Array Value) : Prop := w.heap[g]? = some (.cells cs t (0, 0))
section
variable {w w' : World} {g : Nat} {t : TypeId} {cs : Array Value}
theorem Blk.lt (h : Blk w g t cs) : g < w.heap.size := by
  rcases Nat.lt_or_ge g w.heap.size with hlt | hge
  · exact hlt
  · unfold Blk at h; rw [Array.getElem?_eq_none hge] at h; cases h
theorem Blk.cell (h : Blk w g t cs) (i : Nat) : w.cell? ⟨g, i, none⟩ = cs[i]? := cell_of_row w g i cs t (0, 0) h
theorem Blk.new (w : World) (t : TypeId) (cs : Array Value) : Blk (w.alloc (.cells cs t)) w.heap.size t cs := heap_alloc_new w _
theorem Blk.drewN (h : Blk w g t cs) (n : Nat) : Blk (w.drewN n) g t cs := h
theorem Blk.alloc (h : Blk w g t cs) (o : Obj) : Blk (w.alloc o) g t cs := (Below.heap_alloc w o g h.lt).trans h
theorem Blk.below {B : Nat} (h : Blk w g t cs) (hb : Below B w w') (hg : g < B) : Blk w' g t cs := (hb.block g hg).trans h
theorem Blk.call (h : Blk w g t cs) (hb : Below w.heap.size w w') : Blk w' g t cs := h.below hb h.lt
theorem Blk.reads (h : Blk w g t cs) {B size n : Nat} (hB : g < B) (hn : cs.size = n * size) : qBw w B size (some ⟨g, 0, none⟩) n cs.toList := by
  refine ⟨by simpa using hn, fun _ => ⟨_, rfl, hB, fun j u hu => ?_⟩⟩
  have e2 : (⟨g, 0, none⟩ : Addr).add j = ⟨g, j, none⟩ := by unfold Addr.add; split <;> simp_all
  rw [e2, h.cell]
  simpa using hu
end

def B8 (b : UInt8) : Value := .int .u8 (b.toNat : Int)
def RdB (w : World) (B : Nat) (A : Option Addr) (l : List UInt8) : Prop := qBw w B 1 A l.length (l.map B8)
theorem RdB.at_ {w : World} {B : Nat} {A : Option Addr} {l : List UInt8} (h : RdB w B A l) {k : Nat} (hk : k < l.length) : ∃ b off, A = some ⟨b, off, none⟩ ∧ b < B ∧ w.cell? ⟨b, off + k, none⟩ = some (.int .u8 ((l[k]).toNat : Int)) := by
  obtain ⟨b, off, u, e, hb, hu, hc⟩ := qBw.at_ h hk
  rw [List.getElem?_map, List.getElem?_eq_getElem hk] at hu
  simp only [Option.map_some, Option.some.injEq] at hu
  subst hu
  exact ⟨b, off, e, hb, hc⟩
theorem RdB.take {w : World} {B : Nat} {A : Option Addr} {l : List UInt8} (h : RdB w B A l) {k : Nat} (hk : k ≤ l.length) : RdB w B A (l.take k) := by
  have := qBw.take h hk
  unfold RdB
  rw [List.length_take, Nat.min_eq_left hk, List.map_take]
  simpa using this
section
variable {w w' : World} {B B' : Nat} {A : Option Addr} {l : List UInt8}
theorem RdB.more (h : RdB w B A l) (hB : B ≤ B') : RdB w B' A l := qBw.more h hB
theorem RdB.below (h : RdB w B A l) (hb : Below B w w') : RdB w' B A l := qBw.below h hb
theorem RdB.call (h : RdB w B A l) (hb : Below w.heap.size w w') (hB : B ≤ w.heap.size) : RdB w' B A l := qBw.call h hb hB
theorem RdB.drewN (h : RdB w B A l) (k : Nat) : RdB (w.drewN k) B A l := h
theorem RdB.alloc (h : RdB w B A l) (hB : B ≤ w.heap.size) (o : Obj) : RdB (w.alloc o) B A l := qBw.alloc h hB o
theorem RdB.setCell (h : RdB w B A l) {p : Addr} (hB : B ≤ p.block) (u : Value) : RdB (w.setCell p u) B A l := qBw.setCell h hB u
end

end Go.Proofs.YtlpnnnmdkglkcaaDoor


/-
  Arguments opened: what a reading of an argument says of the cells in memory. It is the frame's first half for each type of parameter; no condition.
-/
namespace Go.Proofs.YtlpnnnmdkglkcaaDoor
open Go.RowKit Go.ChangeShapes Go.WideShapes Go.ChangeAt Go.Deep
open Go.ChangeMaps (open_string shut_string)

structure Raw where
  kind : Int
  a : Int
  b : Int
  text : ByteArray
def Raw.cells (r : Raw) : List Value := [.int .i64 r.kind, .int .i64 r.a, .int .i64 r.b, .string r.text]
def I64 (n : Int) : Prop := -9223372036854775808 ≤ n ∧ n ≤ 9223372036854775807
structure Raw.ok (r : Raw) : Prop where
  kind : I64 r.kind
  a : I64 r.a
  b : I64 r.b
  text : r.text.size ≤ maxLen
instance : Inhabited Raw := ⟨⟨0, 0, 0, ByteArray.empty⟩⟩
theorem Raw.cells_len (r : Raw) : r.cells.length = 4 := rfl
theorem raws_len (l : List Raw) : (l.flatMap Raw.cells).length = l.length * 4 := by
  induction l with
  | nil => rfl
  | cons r l ih => rw [List.flatMap_cons, List.length_append, ih, Raw.cells_len, List.length_cons]; omega
theorem raws_at (l : List Raw) (i j : Nat) (hi : i < l.length) (hj : j < 4) : (l.flatMap Raw.cells)[i * 4 + j]? = (l[i]).cells[j]? := by
  induction l generalizing i with
  | nil => simp at hi
  | cons r l ih =>
    rw [List.flatMap_cons]
    cases i with
    | zero => rw [List.getElem?_append_left (by rw [Raw.cells_len]; omega)]; simp
    | succ i =>
      rw [List.getElem?_append_right (by rw [Raw.cells_len]; omega), Raw.cells_len, show (i + 1) * 4 + j - 4 = i * 4 + j by omega, ih i (by simpa using hi)]
      simp

def RdR (w : World) (B : Nat) (A : Option Addr) (l : List Raw) : Prop := qBw w B 4 A l.length (l.flatMap Raw.cells)
def RdI (w : World) (B : Nat) (A : Option Addr) (l : List Int) : Prop := qBw w B 1 A l.length (l.map (Value.int .i64))
section
variable {w w' : World} {B B' : Nat} {A : Option Addr} {l : List Raw}
theorem RdR.more (h : RdR w B A l) (hB : B ≤ B') : RdR w B' A l := qBw.more h hB
theorem RdR.below (h : RdR w B A l) (hb : Below B w w') : RdR w' B A l := qBw.below h hb
theorem RdR.call (h : RdR w B A l) (hb : Below w.heap.size w w') (hB : B ≤ w.heap.size) : RdR w' B A l := qBw.call h hb hB
theorem RdR.drewN (h : RdR w B A l) (k : Nat) : RdR (w.drewN k) B A l := h
theorem RdR.alloc (h : RdR w B A l) (hB : B ≤ w.heap.size) (o : Obj) : RdR (w.alloc o) B A l := qBw.alloc h hB o
theorem RdR.setCell (h : RdR w B A l) {p : Addr} (hB : B ≤ p.block) (u : Value) : RdR (w.setCell p u) B A l := qBw.setCell h hB u
end
section
variable {w w' : World} {B B' : Nat} {A : Option Addr} {l : List Int}
theorem RdI.more (h : RdI w B A l) (hB : B ≤ B') : RdI w B' A l := qBw.more h hB
theorem RdI.below (h : RdI w B A l) (hb : Below B w w') : RdI w' B A l := qBw.below h hb
theorem RdI.call (h : RdI w B A l) (hb : Below w.heap.size w w') (hB : B ≤ w.heap.size) : RdI w' B A l := qBw.call h hb hB
theorem RdI.drewN (h : RdI w B A l) (k : Nat) : RdI (w.drewN k) B A l := h
theorem RdI.alloc (h : RdI w B A l) (hB : B ≤ w.heap.size) (o : Obj) : RdI (w.alloc o) B A l := qBw.alloc h hB o
theorem RdI.setCell (h : RdI w B A l) {p : Addr} (hB : B ≤ p.block) (u : Value) : RdI (w.setCell p u) B A l := qBw.setCell h hB u
end

theorem i64_of_wf {n : Int} (h : (Lit.int .i64 n).wf = true) : I64 n := bounds_i64 h

section
variable {H : Type} {enc : TypeId × Value → H} {P : Program} {w : World} {base : Nat} {spare : Nat → Bool} {held : Bool}

theorem trod_raw {t ti ts : TypeId} {f0 f1 f2 f3 : Field} {fuel : Nat} {cs : List Value} {x : DataW H × List MemPlace} (hu : P.underlying t = some (.struct #[f0, f1, f2, f3])) (hone : oneCellFields P #[f0, f1, f2, f3] = true)
    (hC : P.cellsOf t = 4) (h0 : f0.type = ti) (h1 : f1.type = ti) (h2 : f2.type = ti) (h3 : f3.type = ts) (hi : P.underlying ti = some (.int .i64)) (hs : P.underlying ts = some .string)
    (h : DataW.trod enc P w base spare held fuel t cs = some x) : ∃ r : Raw, cs = r.cells ∧ r.ok := by
  obtain ⟨xs, n, _, _, hlen, hxl, hg⟩ := DataW.trod_struct hu h
  rw [hC] at hlen
  obtain ⟨c0, c1, c2, c3, rfl⟩ : ∃ a b c d, cs = [a, b, c, d] := by
    match cs, hlen with
    | [a, b, c, d], _ => exact ⟨a, b, c, d, rfl⟩
  have hxs : xs.length = 4 := by simpa using hxl
  obtain ⟨y0, y1, y2, y3, rfl⟩ : ∃ a b c d, xs = [a, b, c, d] := by
    match xs, hxs with
    | [a, b, c, d], _ => exact ⟨a, b, c, d, rfl⟩
  obtain ⟨o0, k0⟩ := hone_of hone 0 f0 rfl
  obtain ⟨o1, k1⟩ := hone_of hone 1 f1 rfl
  obtain ⟨o2, k2⟩ := hone_of hone 2 f2 rfl
  obtain ⟨o3, k3⟩ := hone_of hone 3 f3 rfl
  have g0 := hg 0 f0 rfl
  have g1 := hg 1 f1 rfl
  have g2 := hg 2 f2 rfl
  have g3 := hg 3 f3 rfl
  rw [o0, k0, h0] at g0
  rw [o1, k1, h1] at g1
  rw [o2, k2, h2] at g2
  rw [o3, k3, h3] at g3
  obtain ⟨n0, e0, _, b0⟩ := DataW.trod_int (x := y0) hi (by simpa using g0)
  obtain ⟨n1, e1, _, b1⟩ := DataW.trod_int (x := y1) hi (by simpa using g1)
  obtain ⟨n2, e2, _, b2⟩ := DataW.trod_int (x := y2) hi (by simpa using g2)
  obtain ⟨s3, e3, _, b3⟩ := DataW.trod_string (x := y3) hs (by simpa using g3)
  simp only [List.cons.injEq, and_true] at e0 e1 e2 e3
  subst e0 e1 e2 e3
  exact ⟨⟨n0, n1, n2, s3⟩, rfl, bounds_i64 b0, bounds_i64 b1, bounds_i64 b2, b3⟩

theorem open_raws {r : Reach} {b0 : Nat} {t e ti ts : TypeId} {f0 f1 f2 f3 : Field} {v : Value} {d : DataW H} {p : List MemPlace} (ht : P.underlying t = some (.slice e)) (hu : P.underlying e = some (.struct #[f0, f1, f2, f3]))
    (hone : oneCellFields P #[f0, f1, f2, f3] = true)
    (hC : P.cellsOf e = 4) (h0 : f0.type = ti) (h1 : f1.type = ti) (h2 : f2.type = ti) (h3 : f3.type = ts) (hi : P.underlying ti = some (.int .i64)) (hs : P.underlying ts = some .string)
    (hv : Value.okWide P w r b0 t v) (h : DataW.Trod enc P w base (fun _ => true) held t v d p) (hlt : ∀ x ∈ p, x.block < w.heap.size) :
    ∃ (A : Option Addr) (l : List Raw) (c : Nat), v = .slice A l.length c ∧ RdR w w.heap.size A l ∧ l.length ≤ c ∧ c ≤ maxLen ∧ (∀ r ∈ l, r.ok) ∧
      (d = .nil ∧ c = 0 ∨ ∃ es sp, d = .slice es sp ∧ es.length + sp.length = c) := by
  obtain ⟨A, len, cap, rfl⟩ := okWide_slice ht hv
  obtain ⟨fuel, hf⟩ := h
  rcases open_slice ht hf with ⟨hcs, hx⟩ | ⟨a, len', cap', m, n, D, Pl, hcs, _, hl, hm, hmm, hx, hat⟩
  · simp [Value.cells] at hcs hx
    obtain ⟨rfl, rfl, rfl⟩ := hcs
    exact ⟨none, [], 0, rfl, qBw.none_, by simp, by simp [maxLen], by simp, .inl ⟨hx.1, rfl⟩⟩
  · simp [Value.cells] at hcs
    obtain ⟨rfl, rfl, rfl⟩ := hcs
    simp at hmm
    subst hmm
    have hraw : ∀ i, i < m → ∃ r : Raw, (∀ j, j < 4 → w.cell? (a.add (i * 4 + j)) = r.cells[j]?) ∧ r.ok := by
      intro i him
      obtain ⟨cs', hc, ht'⟩ := hat i him
      rw [hC] at hc
      obtain ⟨r, rfl, ok⟩ := trod_raw hu hone hC h0 h1 h2 h3 hi hs ht'
      obtain ⟨_, _, hcell⟩ := World.cells?_some hc
      refine ⟨r, fun j hj => ?_, ok⟩
      rw [← Go.Deep.add_add, hcell j hj]
    obtain ⟨F, hF⟩ := choose_lt (p := fun i (r : Raw) => (∀ j, j < 4 → w.cell? (a.add (i * 4 + j)) = r.cells[j]?) ∧ r.ok) (n := m) hraw
    have hll : ((List.range len).map F).length = len := by simp
    simp only [Prod.mk.injEq] at hx
    refine ⟨some a, (List.range len).map F, m, by rw [hll], ⟨by rw [raws_len], fun hn => ⟨a, rfl, ?_, fun j u hu => ?_⟩⟩, by rw [hll]; exact hl, hm, ?_, .inr ⟨_, _, hx.1, by simp; omega⟩⟩
    · have hmem : (MemPlace.row a (m * P.cellsOf e) ++ List.flatMap Pl (List.range m)) ⊆ p := by rw [hx.2]; exact List.Subset.refl _
      have hm0 : 0 < m * P.cellsOf e := by rw [hC]; rw [hll] at hn; omega
      have h1 : ∃ x ∈ MemPlace.row a (m * P.cellsOf e), x.block = a.block := by
        refine ⟨MemPlace.cell a.block a.off, ?_, rfl⟩
        simp only [MemPlace.row, List.mem_map, List.mem_range]
        exact ⟨0, hm0, by simp⟩
      obtain ⟨x, hx1, hx2⟩ := h1
      rw [← hx2]
      exact hlt x (hmem (List.mem_append_left _ hx1))
    · have hj : j < ((List.range len).map F).length * 4 := by
        have := (List.getElem?_eq_some_iff.1 hu).1
        rwa [raws_len] at this
      rw [hll] at hj
      have hq := raws_at ((List.range len).map F) (j / 4) (j % 4) (by rw [hll]; omega) (by omega)
      rw [show j / 4 * 4 + j % 4 = j by omega, hu] at hq
      have := (hF (j / 4) (by omega)).1 (j % 4) (by omega)
      rw [show j / 4 * 4 + j % 4 = j by omega] at this
      rw [this, hq]
      simp
    · intro r hr
      obtain ⟨i, hi', rfl⟩ := List.mem_map.1 hr
      exact (hF i (by have := List.mem_range.1 hi'; omega)).2

theorem reach_slice {ts : List TypeId} {ds : List (DataW H)} (h : (DataW.weightsEach P ts ds).all (· ≤ reachBytes) = true) {j : Nat} {t e : TypeId} {d : DataW H} {c size : Nat} (ht : ts[j]? = some t) (hd : ds[j]? = some d) (hu : P.underlying t = some (.slice e))
    (hb : P.bytesOf e = size) (hc : d = .nil ∧ c = 0 ∨ ∃ es sp, d = .slice es sp ∧ es.length + sp.length = c) : c * size ≤ 140737488351232 := by
  rcases hc with ⟨_, rfl⟩ | ⟨es, sp, rfl, rfl⟩
  · omega
  · have := sized_slice h ht hd hu
    rw [hb] at this
    exact this
end
end Go.Proofs.YtlpnnnmdkglkcaaDoor

