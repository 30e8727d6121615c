/-
  Slices that read as lists, blocks that are known whole: words for memory that all walks of this seat share. No condition.
-/
import Derived.Test.YtfkkamkhjbfjmaaDoorBase
import Derived.Below
import Derived.Laws.OwnMore
import Derived.Deep.AppendLies
import Derived.Deep.Draws
import Derived.Laws.Rows
import Derived.Laws.MakeOwn
import Derived.OwnWalk
import Derived.Laws.BytesArg
import Derived.Laws.BytesString
namespace Go.Proofs.YtfkkamkhjbfjmaaDoor
set_option linter.unusedSimpArgs false
set_option linter.unusedVariables false
open Go.RowKit

theorem block_of_add (a : Addr) (n : Nat) : (a.add n).block = a.block := by unfold Addr.add; split <;> rfl
theorem add_of_add (a : Addr) (i j : Nat) : (a.add i).add j = a.add (i + j) := by
  unfold Addr.add
  by_cases hi : i = 0 <;> by_cases hj : j = 0 <;> simp [hi, hj, Nat.add_assoc]

theorem below_drewN {B : Nat} {a w : World} (h : Below B a w) (n : Nat) : Below B a (w.drewN n) := ⟨h.os, h.tape, h.output, h.size, h.block⟩

/-- The slice value '.slice A n c' holds the cells xs, and lies below block B. -/
def Reads (w : World) (B size : Nat) (A : Option Addr) (n : Nat) (xs : List Value) : Prop :=
  xs.length = n * size ∧ (0 < n → ∃ ad, A = some ad ∧ ad.block < B ∧ ∀ j u, xs[j]? = some u → w.cell? (ad.add j) = some u)

section
variable {w w' : World} {B B' size n : Nat} {A : Option Addr} {xs : List Value}
theorem Reads.none_ : Reads w B size A 0 [] := ⟨by simp, fun h => absurd h (by omega)⟩
theorem Reads.at_ {k : Nat} (h : Reads w B 1 A n xs) (hk : k < n) : ∃ b off u, A = some ⟨b, off, none⟩ ∧ b < B ∧ xs[k]? = some u ∧ w.cell? ⟨b, off + k, none⟩ = some u := by
  obtain ⟨ad, e, hb, hc⟩ := h.2 (by omega)
  have hl : k < xs.length := by have := h.1; omega
  have h0 := hc k _ (List.getElem?_eq_getElem hl)
  have h00 := hc 0 _ (List.getElem?_eq_getElem (by omega))
  obtain ⟨b, off, spot⟩ := ad
  have hs : spot = none := by
    have := World.cell?_spot h00
    simpa [Addr.add] using this
  subst hs
  have e2 : (⟨b, off, none⟩ : Addr).add k = ⟨b, off + k, none⟩ := by unfold Addr.add; split <;> simp_all
  rw [e2] at h0
  exact ⟨b, off, xs[k], e, hb, List.getElem?_eq_getElem hl, h0⟩
/-- The cell number j of a slice that holds xs (elements of any size). -/
theorem Reads.cell {j : Nat} (h : Reads w B size A n xs) (hj : j < xs.length) : ∃ b off, A = some ⟨b, off, none⟩ ∧ b < B ∧ w.cell? ⟨b, off + j, none⟩ = xs[j]? ∧ (∀ i, i < xs.length → w.cell? ⟨b, off + i, none⟩ = xs[i]?) := by
  have hn : 0 < n := by
    rcases Nat.eq_zero_or_pos n with h0 | h0
    · have := h.1; rw [h0] at this; omega
    · exact h0
  obtain ⟨ad, e, hb, hc⟩ := h.2 hn
  obtain ⟨b, off, spot⟩ := ad
  have h0 := hc 0 _ (List.getElem?_eq_getElem (by omega))
  have hs : spot = none := by
    have := World.cell?_spot h0
    simpa [Addr.add] using this
  subst hs
  have e2 : ∀ k, (⟨b, off, none⟩ : Addr).add k = ⟨b, off + k, none⟩ := by intro k; unfold Addr.add; split <;> simp_all
  have hall : ∀ i, i < xs.length → w.cell? ⟨b, off + i, none⟩ = xs[i]? := fun i hi => by
    have := hc i _ (List.getElem?_eq_getElem hi)
    rw [e2] at this
    rw [this, List.getElem?_eq_getElem hi]
  exact ⟨b, off, e, hb, hall j hj, hall⟩
theorem Reads.keep (h : Reads w B size A n xs) (hk : ∀ p : Addr, p.block < B → w'.cell? p = w.cell? p) : Reads w' B size A n xs :=
  ⟨h.1, fun hn => by
    obtain ⟨ad, e, hb, hc⟩ := h.2 hn
    exact ⟨ad, e, hb, fun j u hu => (hk _ (by rw [block_of_add]; exact hb)).trans (hc j u hu)⟩⟩
theorem Reads.more (h : Reads w B size A n xs) (hB : B ≤ B') : Reads w B' size A n xs :=
  ⟨h.1, fun hn => by
    obtain ⟨ad, e, hb, hc⟩ := h.2 hn
    exact ⟨ad, e, by omega, hc⟩⟩
theorem Reads.below (h : Reads w B size A n xs) (hb : Below B w w') : Reads w' B size A n xs := h.keep fun _ hp => hb.cell hp
/-- Behind a call that changes nothing that was there. -/
theorem Reads.call (h : Reads w B size A n xs) (hb : Below w.heap.size w w') (hB : B ≤ w.heap.size) : Reads w' B size A n xs := h.below (hb.mono hB)
theorem Reads.drew (h : Reads w B size A n xs) : Reads w.drew B size A n xs := h
theorem Reads.drewN (h : Reads w B size A n xs) (k : Nat) : Reads (w.drewN k) B size A n xs := h
theorem Reads.alloc (h : Reads w B size A n xs) (hB : B ≤ w.heap.size) (o : Obj) : Reads (w.alloc o) B size A n xs := h.keep fun p hp => World.cell?_alloc_lt w o p (by omega)
theorem Reads.setCell (h : Reads w B size A n xs) {p : Addr} (hB : B ≤ p.block) (u : Value) : Reads (w.setCell p u) B size A n xs :=
  h.keep fun q hq => World.cell?_setCell_other w p q u (fun e => by subst e; omega)
theorem Reads.grown (h : Reads w B size A n xs) {row : Option Nat} (hg : w.grownBy w' row) (hB : B ≤ w.heap.size) (hr : ∀ g, row = some g → B ≤ g) : Reads w' B size A n xs :=
  h.keep fun p hp => World.cell?_of_block (hg.block p.block (by omega) (fun e => by have := hr _ e.symm; omega))
/-- The beginning of a slice. -/
theorem Reads.take (h : Reads w B size A n xs) {k : Nat} (hk : k ≤ n) : Reads w B size A k (xs.take (k * size)) := by
  refine ⟨by rw [List.length_take, h.1]; exact Nat.min_eq_left (Nat.mul_le_mul_right _ hk), fun hn => ?_⟩
  obtain ⟨ad, rfl, hb, hcell⟩ := h.2 (by omega)
  refine ⟨ad, rfl, hb, fun j u hu => ?_⟩
  rw [List.getElem?_take] at hu
  split at hu
  · exact hcell j u hu
  · cases hu
theorem Reads.cut (h : Reads w B size A n xs) {k cap : Nat} (hk : k ≤ n) (hc : n ≤ cap) :
    Reads w B size (if cap = k then A else A.map (·.add (k * size))) (n - k) (xs.drop (k * size)) := by
  refine ⟨by rw [List.length_drop, h.1, Nat.sub_mul], fun hn => ?_⟩
  obtain ⟨ad, rfl, hb, hcell⟩ := h.2 (by omega)
  rw [if_neg (by omega)]
  refine ⟨ad.add (k * size), rfl, by rw [block_of_add]; exact hb, fun j u hu => ?_⟩
  rw [add_of_add]
  exact hcell _ u (by rw [← hu, List.getElem?_drop])
theorem Reads.of_own {base : Nat} {e : TypeId} {c : Nat} (h : w.ownsRow base e size (.slice A n c) n xs) : Reads w w.heap.size size A n xs := by
  refine ⟨h.1, fun hn => ?_⟩
  obtain ⟨g, cap, hv, _, hlt⟩ := h.form hn
  have hA : A = some ⟨g, 0, none⟩ := by injection hv
  subst hA
  exact ⟨_, rfl, hlt, h.cells (g := g) rfl⟩
end

/-- Block g is just the cells cs of element type t, none of them frozen. -/
def Blk (w : World) (g : Nat) (t : TypeId) (cs : Array Value) : Prop := w.heap[g]? = some (.cells cs t (0, 0))
section
variable {w w' : World} {g : Nat} {t : TypeId} {cs : Array Value}
theorem Blk.lt (h : Blk w g t cs) : g < w.heap.size := by
  rcases Nat.lt_or_ge g w.heap.size with hlt | hge
  · exact hlt
  · unfold Blk at h; rw [Array.getElem?_eq_none hge] at h; cases h
theorem Blk.cell (h : Blk w g t cs) (i : Nat) : w.cell? ⟨g, i, none⟩ = cs[i]? := cell_of_row w g i cs t (0, 0) h
theorem Blk.frozen (h : Blk w g t cs) (i : Nat) : w.frozen? ⟨g, i, none⟩ = false := by
  unfold Blk at h
  simp [World.frozen?, h]
theorem Blk.new (w : World) (t : TypeId) (cs : Array Value) : Blk (w.alloc (.cells cs t)) w.heap.size t cs := heap_alloc_new w _
theorem Blk.drew (h : Blk w g t cs) : Blk w.drew g t cs := h
theorem Blk.drewN (h : Blk w g t cs) (n : Nat) : Blk (w.drewN n) g t cs := h
theorem Blk.alloc (h : Blk w g t cs) (o : Obj) : Blk (w.alloc o) g t cs := (Below.heap_alloc w o g h.lt).trans h
theorem Blk.set_ (h : Blk w g t cs) (i : Nat) (u : Value) : Blk (w.setCell ⟨g, i, none⟩ u) g t (cs.setIfInBounds i u) := by
  unfold Blk at h ⊢
  simp [World.setCell, Array.getElem?_modify, h]
theorem Blk.far (h : Blk w g t cs) {p : Addr} (hp : g ≠ p.block) (u : Value) : Blk (w.setCell p u) g t cs := (Below.heap_setCell w p u g hp).trans h
theorem Blk.below {B : Nat} (h : Blk w g t cs) (hb : Below B w w') (hg : g < B) : Blk w' g t cs := (hb.block g hg).trans h
theorem Blk.call (h : Blk w g t cs) (hb : Below w.heap.size w w') : Blk w' g t cs := h.below hb h.lt
theorem Blk.grown {row : Option Nat} (h : Blk w g t cs) (hb : w.grownBy w' row) (hg : some g ≠ row) : Blk w' g t cs := (hb.block g h.lt hg).trans h
theorem Blk.ne_ {g' : Nat} {t' : TypeId} {cs' : Array Value} (h : Blk w g t cs) (h' : Blk w g' t' cs') (hne : t ≠ t') : g ≠ g' := by
  rintro rfl
  unfold Blk at h h'
  rw [h] at h'
  injection h' with h'
  injection h' with _ ht
  exact hne ht
theorem own_blk_ne {base : Nat} {e : TypeId} {size n : Nat} {v : Value} {xs : List Value} (h : w.ownsRow base e size v n xs) (hg : Blk w g t cs) (hne : e ≠ t) : v.ownBlock ≠ some g := by
  rcases h.2 with ⟨rfl, _⟩ | ⟨g', cap, cur, rfl, _, hh, _⟩
  · simp [Value.ownBlock]
  · intro he
    have : g' = g := by simpa [Value.ownBlock] using he
    subst this
    exact Blk.ne_ (t := e) hh hg hne rfl
theorem Blk.reads (h : Blk w g t cs) {B size n : Nat} (hB : g < B) (hn : cs.size = n * size) : Reads w B size (some ⟨g, 0, none⟩) n cs.toList := by
  refine ⟨by simpa using hn, fun _ => ⟨_, rfl, hB, fun j u hu => ?_⟩⟩
  have e2 : (⟨g, 0, none⟩ : Addr).add j = ⟨g, j, none⟩ := by unfold Addr.add; split <;> simp_all
  rw [e2, h.cell]
  simpa using hu
end

/-- A byte as a value. -/
def B8 (b : UInt8) : Value := .int .u8 (b.toNat : Int)
theorem one_B8 (l : List UInt8) : ∀ u ∈ l.map B8, u.oneCell' = true := by
  intro u hu
  obtain ⟨b, _, rfl⟩ := List.mem_map.1 hu
  rfl
/-- The slice '.slice A l.length c' reads as the bytes l. -/
def RdB (w : World) (B : Nat) (A : Option Addr) (l : List UInt8) : Prop := Reads w B 1 A l.length (l.map B8)
theorem RdB.at_ {w : World} {B : Nat} {A : Option Addr} {l : List UInt8} (h : RdB w B A l) {k : Nat} (hk : k < l.length) : ∃ b off, A = some ⟨b, off, none⟩ ∧ b < B ∧ w.cell? ⟨b, off + k, none⟩ = some (.int .u8 ((l[k]).toNat : Int)) := by
  obtain ⟨b, off, u, e, hb, hu, hc⟩ := Reads.at_ h hk
  rw [List.getElem?_map, List.getElem?_eq_getElem hk] at hu
  simp only [Option.map_some, Option.some.injEq] at hu
  subst hu
  exact ⟨b, off, e, hb, hc⟩
theorem RdB.take {w : World} {B : Nat} {A : Option Addr} {l : List UInt8} (h : RdB w B A l) {k : Nat} (hk : k ≤ l.length) : RdB w B A (l.take k) := by
  have := Reads.take h hk
  unfold RdB
  rw [List.length_take, Nat.min_eq_left hk, List.map_take]
  simpa using this
theorem RdB.cut {w : World} {B : Nat} {A : Option Addr} {l : List UInt8} (h : RdB w B A l) {k cap : Nat} (hk : k ≤ l.length) (hc : l.length ≤ cap) :
    RdB w B (if cap = k then A else A.map (·.add k)) (l.drop k) := by
  have := Reads.cut h hk hc
  unfold RdB
  rw [List.length_drop, List.map_drop]
  simpa using this
section
variable {w w' : World} {B B' : Nat} {A : Option Addr} {l : List UInt8}
theorem RdB.more (h : RdB w B A l) (hB : B ≤ B') : RdB w B' A l := Reads.more h hB
theorem RdB.below (h : RdB w B A l) (hb : Below B w w') : RdB w' B A l := Reads.below h hb
theorem RdB.call (h : RdB w B A l) (hb : Below w.heap.size w w') (hB : B ≤ w.heap.size) : RdB w' B A l := Reads.call h hb hB
theorem RdB.drew (h : RdB w B A l) : RdB w.drew B A l := h
theorem RdB.drewN (h : RdB w B A l) (k : Nat) : RdB (w.drewN k) B A l := h
theorem RdB.alloc (h : RdB w B A l) (hB : B ≤ w.heap.size) (o : Obj) : RdB (w.alloc o) B A l := Reads.alloc h hB o
theorem RdB.setCell (h : RdB w B A l) {p : Addr} (hB : B ≤ p.block) (u : Value) : RdB (w.setCell p u) B A l := Reads.setCell h hB u
theorem RdB.grown (h : RdB w B A l) {row : Option Nat} (hg : w.grownBy w' row) (hB : B ≤ w.heap.size) (hr : ∀ g, row = some g → B ≤ g) : RdB w' B A l := Reads.grown h hg hB hr
end

/-- The cells of a line of bytes. -/
def BC (l : List UInt8) : Array Value := (l.map B8).toArray
theorem BC_size (l : List UInt8) : (BC l).size = l.length := by simp [BC]
theorem BC_at (l : List UInt8) (i : Nat) (h : i < l.length) : (BC l)[i]? = some (.int .u8 ((l[i]).toNat : Int)) := by
  simp [BC, B8, h]
theorem BC_set (l : List UInt8) (i : Nat) (b : UInt8) : (BC l).setIfInBounds i (.int .u8 (b.toNat : Int)) = BC (l.set i b) := by
  unfold BC
  apply Array.ext'
  simp [B8]
theorem Blk.rdB {w : World} {g : Nat} {t : TypeId} {l : List UInt8} (h : Blk w g t (BC l)) {B : Nat} (hB : g < B) : RdB w B (some ⟨g, 0, none⟩) l := by
  have := h.reads hB (size := 1) (n := l.length) (by rw [BC_size]; omega)
  unfold RdB
  simpa [BC] using this
theorem rdB_one (w : World) (g : Nat) (u : UInt8) (h : w.cell? ⟨g, 0, none⟩ = some (.int .u8 (u.toNat : Int))) : RdB w (g + 1) (some ⟨g, 0, none⟩) [u] := by
  refine ⟨rfl, fun _ => ⟨_, rfl, Nat.lt_succ_self _, fun j v hv => ?_⟩⟩
  match j, hv with
  | 0, hv =>
    simp only [List.map_cons, List.map_nil, List.getElem?_cons_zero, Option.some.injEq] at hv
    subst hv
    exact h
/-- A line of bytes as a string. -/
def Str (l : List UInt8) : ByteArray := ⟨l.toArray⟩
theorem Str_list (l : List UInt8) : (Str l).toList = l := by
  simp [Str, ByteArray.toList_eq]
theorem Str_size (l : List UInt8) : (Str l).size = l.length := by simp [Str, ByteArray.size]
theorem Str_inj {l m : List UInt8} : Str l = Str m ↔ l = m := ⟨fun h => by rw [← Str_list l, h, Str_list], fun h => by rw [h]⟩
theorem B8_ints (l : List UInt8) : l.map B8 = (l.map fun b => (b.toNat : Int)).map (Value.int .u8) := by simp [B8, Function.comp_def]
end Go.Proofs.YtfkkamkhjbfjmaaDoor
