/-
  Small lemmas for all walks of this seat: an ending, a remainder, the number that 'picked' picks. It needs no condition of its own.
-/
import Derived.Test.YtfplkakfakdfhaaDoorRows
import Derived.WalkKit
import Derived.ProofKit
import Derived.Handy
import Derived.Outline
import Derived.WalkSpells
import Derived.WalkLawsBesides
import Derived.Deep.QuietTactic
import Derived.BigQuiet
import Derived.Lib.Hide
import Derived.Below
import Derived.Laws.OwnMore
import Derived.Deep.AppendLies
import Derived.Deep.Draws
import Derived.Laws.Rows
import Derived.Laws.MakeOwn
import Derived.OwnWalk
import Derived.Laws.BytesArg
import Derived.Laws.BytesString
import Derived.OpenShut
import Derived.Deep.Slices
import Derived.Deep.Fields
import Derived.SizedLaws
import Derived.ChangeOld
import Derived.ShutString
import Derived.Lib.SmallJoins
namespace Go.Proofs.YtfplkakfakdfhaaDoor
set_option linter.unusedSimpArgs false
set_option linter.unusedVariables false
open Go.RowKit

theorem ret_int {k : IntKind} {a b : Int} (h : a = b) : Ending.returned (.int k a) = .returned (.int k b) := by rw [h]

theorem ret_ints {k l : IntKind} {a b c d : Int} (h : a = b) (h' : c = d) : Ending.returned (.tuple #[.int k a, .int l c]) = .returned (.tuple #[.int k b, .int l d]) := by rw [h, h']

theorem ret_bool {b c : Bool} (h : b = c) : Ending.returned (.bool b) = .returned (.bool c) := by rw [h]
theorem bstep {w w1 w2 : World} (h : Below w.heap.size w w1) (h2 : Below w1.heap.size w1 w2) : Below w.heap.size w w2 := h.trans (h2.mono h.size)

theorem tmod_lt0 (n m : Int) (hm : 0 < m) (h : n.tmod m < 0) : n.tmod m + m = n % m := by
  have h2 := Int.emod_nonneg n (show m ≠ 0 by omega)
  have h3 := Int.emod_lt_of_pos n hm
  rw [Int.tmod_eq_emod] at h ⊢
  split at h <;> rename_i hc
  · omega
  · rw [if_neg hc]
    omega
theorem tmod_ge0 (n m : Int) (hm : 0 < m) (h : 0 ≤ n.tmod m) : n.tmod m = n % m := by
  have h2 := Int.emod_nonneg n (show m ≠ 0 by omega)
  have h3 := Int.emod_lt_of_pos n hm
  rw [Int.tmod_eq_emod] at h ⊢
  split at h <;> rename_i hc
  · rw [if_pos hc]; omega
  · exfalso; omega
theorem emod_in (n m : Int) (hm : 0 < m) : 0 ≤ n % m ∧ n % m < m := ⟨Int.emod_nonneg n (show m ≠ 0 by omega), Int.emod_lt_of_pos n hm⟩

/-- 'min' of four whole numbers. -/
theorem run_min4 {P : Program} {w : World} (ts : Array TypeId) (t : TypeId) (k k' k'' k3 : IntKind) (x y z u n : Int) (h : n = min (min (min x y) z) u) :
    (Builtin.min_ ts t #[.int k x, .int k' y, .int k'' z, .int k3 u]).run P w = .ok (.int k n) w := by
  have e : (if u < (if z < (if y < x then y else x) then z else (if y < x then y else x)) then u else (if z < (if y < x then y else x) then z else (if y < x then y else x))) = n := by
    subst h
    simp only [Int.min_def]
    repeat' split
    all_goals omega
  rw [← e]
  simp [Builtin.min_, Builtin.min2, List.foldlM]

theorem picked_any (n m : Int) (w : World) (hm : 0 < m) (hm2 : m ≤ 4611686018427387904) :
    Calls Tryd.prog 6 #[.int .i64 n, .int .i64 m] w fun e w' => e = .returned (.int .i64 (n % m)) ∧ w = w' := by
  have h3 := emod_in n m hm
  have hmm : (m == 0) = false := by simp; omega
  by_cases h : n.tmod m < 0
  · have h4 := tmod_lt0 n m hm h
    have hw : wrap64 (n.tmod m + m) = n % m := by rw [h4]; unfold wrap64; omega
    have HW := Lib.hid hw
    clear hw h4 h3
    go_enter Tryd.func6, Tryd.ntmps6
    go_wp2
    go_ret
    exact ⟨ret_int HW.out, rfl⟩
  · have h4 := tmod_ge0 n m hm (by omega)
    have HW := Lib.hid h4
    clear h4 h3
    go_enter Tryd.func6, Tryd.ntmps6
    go_wp2
    go_ret
    exact ⟨ret_int HW.out, rfl⟩
end Go.Proofs.YtfplkakfakdfhaaDoor


/-
  Slices that read as lists, blocks that are known whole: words for memory that all walks of this seat share. No condition.
-/
namespace Go.Proofs.YtfplkakfakdfhaaDoor
set_option linter.unusedSimpArgs false
set_option linter.unusedVariables false
open Go.RowKit

theorem block_of_add (a : Addr) (n : Nat) : (a.add n).block = a.block := by unfold Addr.add; split <;> rfl
theorem add_of_add (a : Addr) (i j : Nat) : (a.add i).add j = a.add (i + j) := by
  unfold Addr.add
  by_cases hi : i = 0 <;> by_cases hj : j = 0 <;> simp [hi, hj, Nat.add_assoc]

theorem below_drewN {B : Nat} {a w : World} (h : Below B a w) (n : Nat) : Below B a (w.drewN n) := ⟨h.os, h.tape, h.output, h.size, h.block⟩

/-- The slice value '.slice A n c' holds the cells xs, and lies below block B. -/
def Reads (w : World) (B size : Nat) (A : Option Addr) (n : Nat) (xs : List Value) : Prop :=
  xs.length = n * size ∧ (0 < n → ∃ ad, A = some ad ∧ ad.block < B ∧ ∀ j u, xs[j]? = some u → w.cell? (ad.add j) = some u)

section
variable {w w' : World} {B B' size n : Nat} {A : Option Addr} {xs : List Value}
theorem Reads.none_ : Reads w B size A 0 [] := ⟨by simp, fun h => absurd h (by omega)⟩
theorem Reads.at_ {k : Nat} (h : Reads w B 1 A n xs) (hk : k < n) : ∃ b off u, A = some ⟨b, off, none⟩ ∧ b < B ∧ xs[k]? = some u ∧ w.cell? ⟨b, off + k, none⟩ = some u := by
  obtain ⟨ad, e, hb, hc⟩ := h.2 (by omega)
  have hl : k < xs.length := by have := h.1; omega
  have h0 := hc k _ (List.getElem?_eq_getElem hl)
  have h00 := hc 0 _ (List.getElem?_eq_getElem (by omega))
  obtain ⟨b, off, spot⟩ := ad
  have hs : spot = none := by
    have := World.cell?_spot h00
    simpa [Addr.add] using this
  subst hs
  have e2 : (⟨b, off, none⟩ : Addr).add k = ⟨b, off + k, none⟩ := by unfold Addr.add; split <;> simp_all
  rw [e2] at h0
  exact ⟨b, off, xs[k], e, hb, List.getElem?_eq_getElem hl, h0⟩
/-- The cell number j of a slice that holds xs (elements of any size). -/
theorem Reads.cell {j : Nat} (h : Reads w B size A n xs) (hj : j < xs.length) : ∃ b off, A = some ⟨b, off, none⟩ ∧ b < B ∧ w.cell? ⟨b, off + j, none⟩ = xs[j]? ∧ (∀ i, i < xs.length → w.cell? ⟨b, off + i, none⟩ = xs[i]?) := by
  have hn : 0 < n := by
    rcases Nat.eq_zero_or_pos n with h0 | h0
    · have := h.1; rw [h0] at this; omega
    · exact h0
  obtain ⟨ad, e, hb, hc⟩ := h.2 hn
  obtain ⟨b, off, spot⟩ := ad
  have h0 := hc 0 _ (List.getElem?_eq_getElem (by omega))
  have hs : spot = none := by
    have := World.cell?_spot h0
    simpa [Addr.add] using this
  subst hs
  have e2 : ∀ k, (⟨b, off, none⟩ : Addr).add k = ⟨b, off + k, none⟩ := by intro k; unfold Addr.add; split <;> simp_all
  have hall : ∀ i, i < xs.length → w.cell? ⟨b, off + i, none⟩ = xs[i]? := fun i hi => by
    have := hc i _ (List.getElem?_eq_getElem hi)
    rw [e2] at this
    rw [this, List.getElem?_eq_getElem hi]
  exact ⟨b, off, e, hb, hall j hj, hall⟩
theorem Reads.keep (h : Reads w B size A n xs) (hk : ∀ p : Addr, p.block < B → w'.cell? p = w.cell? p) : Reads w' B size A n xs :=
  ⟨h.1, fun hn => by
    obtain ⟨ad, e, hb, hc⟩ := h.2 hn
    exact ⟨ad, e, hb, fun j u hu => (hk _ (by rw [block_of_add]; exact hb)).trans (hc j u hu)⟩⟩
theorem Reads.more (h : Reads w B size A n xs) (hB : B ≤ B') : Reads w B' size A n xs :=
  ⟨h.1, fun hn => by
    obtain ⟨ad, e, hb, hc⟩ := h.2 hn
    exact ⟨ad, e, by omega, hc⟩⟩
theorem Reads.below (h : Reads w B size A n xs) (hb : Below B w w') : Reads w' B size A n xs := h.keep fun _ hp => hb.cell hp
/-- Behind a call that changes nothing that was there. -/
theorem Reads.call (h : Reads w B size A n xs) (hb : Below w.heap.size w w') (hB : B ≤ w.heap.size) : Reads w' B size A n xs := h.below (hb.mono hB)
theorem Reads.drew (h : Reads w B size A n xs) : Reads w.drew B size A n xs := h
theorem Reads.drewN (h : Reads w B size A n xs) (k : Nat) : Reads (w.drewN k) B size A n xs := h
theorem Reads.alloc (h : Reads w B size A n xs) (hB : B ≤ w.heap.size) (o : Obj) : Reads (w.alloc o) B size A n xs := h.keep fun p hp => World.cell?_alloc_lt w o p (by omega)
theorem Reads.setCell (h : Reads w B size A n xs) {p : Addr} (hB : B ≤ p.block) (u : Value) : Reads (w.setCell p u) B size A n xs :=
  h.keep fun q hq => World.cell?_setCell_other w p q u (fun e => by subst e; omega)
theorem Reads.grown (h : Reads w B size A n xs) {row : Option Nat} (hg : w.grownBy w' row) (hB : B ≤ w.heap.size) (hr : ∀ g, row = some g → B ≤ g) : Reads w' B size A n xs :=
  h.keep fun p hp => World.cell?_of_block (hg.block p.block (by omega) (fun e => by have := hr _ e.symm; omega))
/-- The beginning of a slice. -/
theorem Reads.take (h : Reads w B size A n xs) {k : Nat} (hk : k ≤ n) : Reads w B size A k (xs.take (k * size)) := by
  refine ⟨by rw [List.length_take, h.1]; exact Nat.min_eq_left (Nat.mul_le_mul_right _ hk), fun hn => ?_⟩
  obtain ⟨ad, rfl, hb, hcell⟩ := h.2 (by omega)
  refine ⟨ad, rfl, hb, fun j u hu => ?_⟩
  rw [List.getElem?_take] at hu
  split at hu
  · exact hcell j u hu
  · cases hu
theorem Reads.cut (h : Reads w B size A n xs) {k cap : Nat} (hk : k ≤ n) (hc : n ≤ cap) :
    Reads w B size (if cap = k then A else A.map (·.add (k * size))) (n - k) (xs.drop (k * size)) := by
  refine ⟨by rw [List.length_drop, h.1, Nat.sub_mul], fun hn => ?_⟩
  obtain ⟨ad, rfl, hb, hcell⟩ := h.2 (by omega)
  rw [if_neg (by omega)]
  refine ⟨ad.add (k * size), rfl, by rw [block_of_add]; exact hb, fun j u hu => ?_⟩
  rw [add_of_add]
  exact hcell _ u (by rw [← hu, List.getElem?_drop])
theorem Reads.of_own {base : Nat} {e : TypeId} {c : Nat} (h : w.ownsRow base e size (.slice A n c) n xs) : Reads w w.heap.size size A n xs := by
  refine ⟨h.1, fun hn => ?_⟩
  obtain ⟨g, cap, hv, _, hlt⟩ := h.form hn
  have hA : A = some ⟨g, 0, none⟩ := by injection hv
  subst hA
  exact ⟨_, rfl, hlt, h.cells (g := g) rfl⟩
end

/-- Block g is just the cells cs of element type t, none of them frozen. -/
def Blk (w : World) (g : Nat) (t : TypeId) (cs : Array Value) : Prop := w.heap[g]? = some (.cells cs t (0, 0))
section
variable {w w' : World} {g : Nat} {t : TypeId} {cs : Array Value}
theorem Blk.lt (h : Blk w g t cs) : g < w.heap.size := by
  rcases Nat.lt_or_ge g w.heap.size with hlt | hge
  · exact hlt
  · unfold Blk at h; rw [Array.getElem?_eq_none hge] at h; cases h
theorem Blk.cell (h : Blk w g t cs) (i : Nat) : w.cell? ⟨g, i, none⟩ = cs[i]? := cell_of_row w g i cs t (0, 0) h
theorem Blk.frozen (h : Blk w g t cs) (i : Nat) : w.frozen? ⟨g, i, none⟩ = false := by
  unfold Blk at h
  simp [World.frozen?, h]
theorem Blk.new (w : World) (t : TypeId) (cs : Array Value) : Blk (w.alloc (.cells cs t)) w.heap.size t cs := heap_alloc_new w _
theorem Blk.drew (h : Blk w g t cs) : Blk w.drew g t cs := h
theorem Blk.drewN (h : Blk w g t cs) (n : Nat) : Blk (w.drewN n) g t cs := h
theorem Blk.alloc (h : Blk w g t cs) (o : Obj) : Blk (w.alloc o) g t cs := (Below.heap_alloc w o g h.lt).trans h
theorem Blk.set_ (h : Blk w g t cs) (i : Nat) (u : Value) : Blk (w.setCell ⟨g, i, none⟩ u) g t (cs.setIfInBounds i u) := by
  unfold Blk at h ⊢
  simp [World.setCell, Array.getElem?_modify, h]
theorem Blk.far (h : Blk w g t cs) {p : Addr} (hp : g ≠ p.block) (u : Value) : Blk (w.setCell p u) g t cs := (Below.heap_setCell w p u g hp).trans h
theorem Blk.below {B : Nat} (h : Blk w g t cs) (hb : Below B w w') (hg : g < B) : Blk w' g t cs := (hb.block g hg).trans h
theorem Blk.call (h : Blk w g t cs) (hb : Below w.heap.size w w') : Blk w' g t cs := h.below hb h.lt
theorem Blk.grown {row : Option Nat} (h : Blk w g t cs) (hb : w.grownBy w' row) (hg : some g ≠ row) : Blk w' g t cs := (hb.block g h.lt hg).trans h
theorem Blk.ne_ {g' : Nat} {t' : TypeId} {cs' : Array Value} (h : Blk w g t cs) (h' : Blk w g' t' cs') (hne : t ≠ t') : g ≠ g' := by
  rintro rfl
  unfold Blk at h h'
  rw [h] at h'
  injection h' with h'
  injection h' with _ ht
  exact hne ht
theorem own_blk_ne {base : Nat} {e : TypeId} {size n : Nat} {v : Value} {xs : List Value} (h : w.ownsRow base e size v n xs) (hg : Blk w g t cs) (hne : e ≠ t) : v.ownBlock ≠ some g := by
  rcases h.2 with ⟨rfl, _⟩ | ⟨g', cap, cur, rfl, _, hh, _⟩
  · simp [Value.ownBlock]
  · intro he
    have : g' = g := by simpa [Value.ownBlock] using he
    subst this
    exact Blk.ne_ (t := e) hh hg hne rfl
theorem Blk.reads (h : Blk w g t cs) {B size n : Nat} (hB : g < B) (hn : cs.size = n * size) : Reads w B size (some ⟨g, 0, none⟩) n cs.toList := by
  refine ⟨by simpa using hn, fun _ => ⟨_, rfl, hB, fun j u hu => ?_⟩⟩
  have e2 : (⟨g, 0, none⟩ : Addr).add j = ⟨g, j, none⟩ := by unfold Addr.add; split <;> simp_all
  rw [e2, h.cell]
  simpa using hu
end

/-- A byte as a value. -/
def B8 (b : UInt8) : Value := .int .u8 (b.toNat : Int)
theorem one_B8 (l : List UInt8) : ∀ u ∈ l.map B8, u.oneCell' = true := by
  intro u hu
  obtain ⟨b, _, rfl⟩ := List.mem_map.1 hu
  rfl
/-- The slice '.slice A l.length c' reads as the bytes l. -/
def RdB (w : World) (B : Nat) (A : Option Addr) (l : List UInt8) : Prop := Reads w B 1 A l.length (l.map B8)
theorem RdB.at_ {w : World} {B : Nat} {A : Option Addr} {l : List UInt8} (h : RdB w B A l) {k : Nat} (hk : k < l.length) : ∃ b off, A = some ⟨b, off, none⟩ ∧ b < B ∧ w.cell? ⟨b, off + k, none⟩ = some (.int .u8 ((l[k]).toNat : Int)) := by
  obtain ⟨b, off, u, e, hb, hu, hc⟩ := Reads.at_ h hk
  rw [List.getElem?_map, List.getElem?_eq_getElem hk] at hu
  simp only [Option.map_some, Option.some.injEq] at hu
  subst hu
  exact ⟨b, off, e, hb, hc⟩
theorem RdB.take {w : World} {B : Nat} {A : Option Addr} {l : List UInt8} (h : RdB w B A l) {k : Nat} (hk : k ≤ l.length) : RdB w B A (l.take k) := by
  have := Reads.take h hk
  unfold RdB
  rw [List.length_take, Nat.min_eq_left hk, List.map_take]
  simpa using this
theorem RdB.cut {w : World} {B : Nat} {A : Option Addr} {l : List UInt8} (h : RdB w B A l) {k cap : Nat} (hk : k ≤ l.length) (hc : l.length ≤ cap) :
    RdB w B (if cap = k then A else A.map (·.add k)) (l.drop k) := by
  have := Reads.cut h hk hc
  unfold RdB
  rw [List.length_drop, List.map_drop]
  simpa using this
section
variable {w w' : World} {B B' : Nat} {A : Option Addr} {l : List UInt8}
theorem RdB.more (h : RdB w B A l) (hB : B ≤ B') : RdB w B' A l := Reads.more h hB
theorem RdB.below (h : RdB w B A l) (hb : Below B w w') : RdB w' B A l := Reads.below h hb
theorem RdB.call (h : RdB w B A l) (hb : Below w.heap.size w w') (hB : B ≤ w.heap.size) : RdB w' B A l := Reads.call h hb hB
theorem RdB.drew (h : RdB w B A l) : RdB w.drew B A l := h
theorem RdB.drewN (h : RdB w B A l) (k : Nat) : RdB (w.drewN k) B A l := h
theorem RdB.alloc (h : RdB w B A l) (hB : B ≤ w.heap.size) (o : Obj) : RdB (w.alloc o) B A l := Reads.alloc h hB o
theorem RdB.setCell (h : RdB w B A l) {p : Addr} (hB : B ≤ p.block) (u : Value) : RdB (w.setCell p u) B A l := Reads.setCell h hB u
theorem RdB.grown (h : RdB w B A l) {row : Option Nat} (hg : w.grownBy w' row) (hB : B ≤ w.heap.size) (hr : ∀ g, row = some g → B ≤ g) : RdB w' B A l := Reads.grown h hg hB hr
end

/-- The cells of a line of bytes. -/
def BC (l : List UInt8) : Array Value := (l.map B8).toArray
theorem BC_size (l : List UInt8) : (BC l).size = l.length := by simp [BC]
theorem BC_at (l : List UInt8) (i : Nat) (h : i < l.length) : (BC l)[i]? = some (.int .u8 ((l[i]).toNat : Int)) := by
  simp [BC, B8, h]
theorem BC_set (l : List UInt8) (i : Nat) (b : UInt8) : (BC l).setIfInBounds i (.int .u8 (b.toNat : Int)) = BC (l.set i b) := by
  unfold BC
  apply Array.ext'
  simp [B8]
theorem Blk.rdB {w : World} {g : Nat} {t : TypeId} {l : List UInt8} (h : Blk w g t (BC l)) {B : Nat} (hB : g < B) : RdB w B (some ⟨g, 0, none⟩) l := by
  have := h.reads hB (size := 1) (n := l.length) (by rw [BC_size]; omega)
  unfold RdB
  simpa [BC] using this
theorem rdB_one (w : World) (g : Nat) (u : UInt8) (h : w.cell? ⟨g, 0, none⟩ = some (.int .u8 (u.toNat : Int))) : RdB w (g + 1) (some ⟨g, 0, none⟩) [u] := by
  refine ⟨rfl, fun _ => ⟨_, rfl, Nat.lt_succ_self _, fun j v hv => ?_⟩⟩
  match j, hv with
  | 0, hv =>
    simp only [List.map_cons, List.map_nil, List.getElem?_cons_zero, Option.some.injEq] at hv
    subst hv
    exact h
/-- A line of bytes as a string. -/
def Str (l : List UInt8) : ByteArray := ⟨l.toArray⟩
theorem Str_list (l : List UInt8) : (Str l).toList = l := by
  simp [Str, ByteArray.toList_eq]
theorem Str_size (l : List UInt8) : (Str l).size = l.length := by simp [Str, ByteArray.size]
theorem Str_inj {l m : List UInt8} : Str l = Str m ↔ l = m := ⟨fun h => by rw [← Str_list l, h, Str_list], fun h => by rw [h]⟩
theorem B8_ints (l : List UInt8) : l.map B8 = (l.map fun b => (b.toNat : Int)).map (Value.int .u8) := by simp [B8, Function.comp_def]
end Go.Proofs.YtfplkakfakdfhaaDoor


/-
  Arguments opened: what a reading of an argument says of the cells in memory. It is the frame's first half for each type of parameter; no condition.
-/
namespace Go.Proofs.YtfplkakfakdfhaaDoor
set_option linter.unusedSimpArgs false
set_option linter.unusedVariables false
open Go.RowKit Go.ChangeShapes Go.WideShapes Go.ChangeAt Go.Deep
open Go.ChangeMaps (open_string shut_string)

/-- A raw thing: kind, two numbers and a text. -/
structure Raw where
  kind : Int
  a : Int
  b : Int
  text : ByteArray
def Raw.cells (r : Raw) : List Value := [.int .i64 r.kind, .int .i64 r.a, .int .i64 r.b, .string r.text]
def I64 (n : Int) : Prop := -9223372036854775808 ≤ n ∧ n ≤ 9223372036854775807
structure Raw.ok (r : Raw) : Prop where
  kind : I64 r.kind
  a : I64 r.a
  b : I64 r.b
  text : r.text.size ≤ maxLen
instance : Inhabited Raw := ⟨⟨0, 0, 0, ByteArray.empty⟩⟩
theorem Raw.cells_len (r : Raw) : r.cells.length = 4 := rfl
theorem raws_len (l : List Raw) : (l.flatMap Raw.cells).length = l.length * 4 := by
  induction l with
  | nil => rfl
  | cons r l ih => rw [List.flatMap_cons, List.length_append, ih, Raw.cells_len, List.length_cons]; omega
theorem raws_at (l : List Raw) (i j : Nat) (hi : i < l.length) (hj : j < 4) : (l.flatMap Raw.cells)[i * 4 + j]? = (l[i]).cells[j]? := by
  induction l generalizing i with
  | nil => simp at hi
  | cons r l ih =>
    rw [List.flatMap_cons]
    cases i with
    | zero => rw [List.getElem?_append_left (by rw [Raw.cells_len]; omega)]; simp
    | succ i =>
      rw [List.getElem?_append_right (by rw [Raw.cells_len]; omega), Raw.cells_len, show (i + 1) * 4 + j - 4 = i * 4 + j by omega, ih i (by simpa using hi)]
      simp

/-- The slice '.slice A l.length c' reads as the raw things l. -/
def RdR (w : World) (B : Nat) (A : Option Addr) (l : List Raw) : Prop := Reads w B 4 A l.length (l.flatMap Raw.cells)
/-- The slice reads as the numbers l. -/
def RdI (w : World) (B : Nat) (A : Option Addr) (l : List Int) : Prop := Reads w B 1 A l.length (l.map (Value.int .i64))
section
variable {w w' : World} {B B' : Nat} {A : Option Addr} {l : List Raw}
theorem RdR.more (h : RdR w B A l) (hB : B ≤ B') : RdR w B' A l := Reads.more h hB
theorem RdR.below (h : RdR w B A l) (hb : Below B w w') : RdR w' B A l := Reads.below h hb
theorem RdR.call (h : RdR w B A l) (hb : Below w.heap.size w w') (hB : B ≤ w.heap.size) : RdR w' B A l := Reads.call h hb hB
theorem RdR.drew (h : RdR w B A l) : RdR w.drew B A l := h
theorem RdR.drewN (h : RdR w B A l) (k : Nat) : RdR (w.drewN k) B A l := h
theorem RdR.alloc (h : RdR w B A l) (hB : B ≤ w.heap.size) (o : Obj) : RdR (w.alloc o) B A l := Reads.alloc h hB o
theorem RdR.setCell (h : RdR w B A l) {p : Addr} (hB : B ≤ p.block) (u : Value) : RdR (w.setCell p u) B A l := Reads.setCell h hB u
theorem RdR.grown (h : RdR w B A l) {row : Option Nat} (hg : w.grownBy w' row) (hB : B ≤ w.heap.size) (hr : ∀ g, row = some g → B ≤ g) : RdR w' B A l := Reads.grown h hg hB hr
end
section
variable {w w' : World} {B B' : Nat} {A : Option Addr} {l : List Int}
theorem RdI.more (h : RdI w B A l) (hB : B ≤ B') : RdI w B' A l := Reads.more h hB
theorem RdI.below (h : RdI w B A l) (hb : Below B w w') : RdI w' B A l := Reads.below h hb
theorem RdI.call (h : RdI w B A l) (hb : Below w.heap.size w w') (hB : B ≤ w.heap.size) : RdI w' B A l := Reads.call h hb hB
theorem RdI.drew (h : RdI w B A l) : RdI w.drew B A l := h
theorem RdI.drewN (h : RdI w B A l) (k : Nat) : RdI (w.drewN k) B A l := h
theorem RdI.alloc (h : RdI w B A l) (hB : B ≤ w.heap.size) (o : Obj) : RdI (w.alloc o) B A l := Reads.alloc h hB o
theorem RdI.setCell (h : RdI w B A l) {p : Addr} (hB : B ≤ p.block) (u : Value) : RdI (w.setCell p u) B A l := Reads.setCell h hB u
theorem RdI.grown (h : RdI w B A l) {row : Option Nat} (hg : w.grownBy w' row) (hB : B ≤ w.heap.size) (hr : ∀ g, row = some g → B ≤ g) : RdI w' B A l := Reads.grown h hg hB hr
end

theorem i64_of_wf {n : Int} (h : (Lit.int .i64 n).wf = true) : I64 n := bounds_i64 h

section
variable {H : Type} {enc : TypeId × Value → H} {P : Program} {w : World} {base : Nat} {spare : Nat → Bool} {held : Bool}

theorem trod_raw {t ti ts : TypeId} {f0 f1 f2 f3 : Field} {fuel : Nat} {cs : List Value} {x : DataW H × List MemPlace} (hu : P.underlying t = some (.struct #[f0, f1, f2, f3])) (hone : oneCellFields P #[f0, f1, f2, f3] = true)
    (hC : P.cellsOf t = 4) (h0 : f0.type = ti) (h1 : f1.type = ti) (h2 : f2.type = ti) (h3 : f3.type = ts) (hi : P.underlying ti = some (.int .i64)) (hs : P.underlying ts = some .string)
    (h : DataW.trod enc P w base spare held fuel t cs = some x) : ∃ r : Raw, cs = r.cells ∧ r.ok := by
  obtain ⟨xs, n, _, _, hlen, hxl, hg⟩ := DataW.trod_struct hu h
  rw [hC] at hlen
  obtain ⟨c0, c1, c2, c3, rfl⟩ : ∃ a b c d, cs = [a, b, c, d] := by
    match cs, hlen with
    | [a, b, c, d], _ => exact ⟨a, b, c, d, rfl⟩
  have hxs : xs.length = 4 := by simpa using hxl
  obtain ⟨y0, y1, y2, y3, rfl⟩ : ∃ a b c d, xs = [a, b, c, d] := by
    match xs, hxs with
    | [a, b, c, d], _ => exact ⟨a, b, c, d, rfl⟩
  obtain ⟨o0, k0⟩ := hone_of hone 0 f0 rfl
  obtain ⟨o1, k1⟩ := hone_of hone 1 f1 rfl
  obtain ⟨o2, k2⟩ := hone_of hone 2 f2 rfl
  obtain ⟨o3, k3⟩ := hone_of hone 3 f3 rfl
  have g0 := hg 0 f0 rfl
  have g1 := hg 1 f1 rfl
  have g2 := hg 2 f2 rfl
  have g3 := hg 3 f3 rfl
  rw [o0, k0, h0] at g0
  rw [o1, k1, h1] at g1
  rw [o2, k2, h2] at g2
  rw [o3, k3, h3] at g3
  obtain ⟨n0, e0, _, b0⟩ := DataW.trod_int (x := y0) hi (by simpa using g0)
  obtain ⟨n1, e1, _, b1⟩ := DataW.trod_int (x := y1) hi (by simpa using g1)
  obtain ⟨n2, e2, _, b2⟩ := DataW.trod_int (x := y2) hi (by simpa using g2)
  obtain ⟨s3, e3, _, b3⟩ := DataW.trod_string (x := y3) hs (by simpa using g3)
  simp only [List.cons.injEq, and_true] at e0 e1 e2 e3
  subst e0 e1 e2 e3
  exact ⟨⟨n0, n1, n2, s3⟩, rfl, bounds_i64 b0, bounds_i64 b1, bounds_i64 b2, b3⟩

theorem open_raw {r : Reach} {b0 : Nat} {t ti ts : TypeId} {f0 f1 f2 f3 : Field} {v : Value} {d : DataW H} {p : List MemPlace} (hu : P.underlying t = some (.struct #[f0, f1, f2, f3])) (hone : oneCellFields P #[f0, f1, f2, f3] = true)
    (hC : P.cellsOf t = 4) (h0 : f0.type = ti) (h1 : f1.type = ti) (h2 : f2.type = ti) (h3 : f3.type = ts) (hi : P.underlying ti = some (.int .i64)) (hs : P.underlying ts = some .string)
    (hv : Value.okWide P w r b0 t v) (h : DataW.Trod enc P w base spare held t v d p) : ∃ r : Raw, v = .agg #[.int .i64 r.kind, .int .i64 r.a, .int .i64 r.b, .string r.text] ∧ r.ok := by
  obtain ⟨cs, rfl, _⟩ := okWide_struct hu hv
  obtain ⟨fuel, hf⟩ := h
  obtain ⟨r, e, ok⟩ := trod_raw hu hone hC h0 h1 h2 h3 hi hs hf
  refine ⟨r, ?_, ok⟩
  simp only [Value.cells, Raw.cells] at e
  congr 1
  apply Array.ext'
  simpa using e

theorem open_raws {r : Reach} {b0 : Nat} {t e ti ts : TypeId} {f0 f1 f2 f3 : Field} {v : Value} {d : DataW H} {p : List MemPlace} (ht : P.underlying t = some (.slice e)) (hu : P.underlying e = some (.struct #[f0, f1, f2, f3]))
    (hone : oneCellFields P #[f0, f1, f2, f3] = true)
    (hC : P.cellsOf e = 4) (h0 : f0.type = ti) (h1 : f1.type = ti) (h2 : f2.type = ti) (h3 : f3.type = ts) (hi : P.underlying ti = some (.int .i64)) (hs : P.underlying ts = some .string)
    (hv : Value.okWide P w r b0 t v) (h : DataW.Trod enc P w base (fun _ => true) held t v d p) (hlt : ∀ x ∈ p, x.block < w.heap.size) :
    ∃ (A : Option Addr) (l : List Raw) (c : Nat), v = .slice A l.length c ∧ RdR w w.heap.size A l ∧ l.length ≤ c ∧ c ≤ maxLen ∧ (∀ r ∈ l, r.ok) ∧
      (d = .nil ∧ c = 0 ∨ ∃ es sp, d = .slice es sp ∧ es.length + sp.length = c) := by
  obtain ⟨A, len, cap, rfl⟩ := okWide_slice ht hv
  obtain ⟨fuel, hf⟩ := h
  rcases open_slice ht hf with ⟨hcs, hx⟩ | ⟨a, len', cap', m, n, D, Pl, hcs, _, hl, hm, hmm, hx, hat⟩
  · simp [Value.cells] at hcs hx
    obtain ⟨rfl, rfl, rfl⟩ := hcs
    exact ⟨none, [], 0, rfl, Reads.none_, by simp, by simp [maxLen], by simp, .inl ⟨hx.1, rfl⟩⟩
  · simp [Value.cells] at hcs
    obtain ⟨rfl, rfl, rfl⟩ := hcs
    simp at hmm
    subst hmm
    have hraw : ∀ i, i < m → ∃ r : Raw, (∀ j, j < 4 → w.cell? (a.add (i * 4 + j)) = r.cells[j]?) ∧ r.ok := by
      intro i him
      obtain ⟨cs', hc, ht'⟩ := hat i him
      rw [hC] at hc
      obtain ⟨r, rfl, ok⟩ := trod_raw hu hone hC h0 h1 h2 h3 hi hs ht'
      obtain ⟨_, _, hcell⟩ := World.cells?_some hc
      refine ⟨r, fun j hj => ?_, ok⟩
      rw [← Go.Deep.add_add, hcell j hj]
    obtain ⟨F, hF⟩ := choose_lt (p := fun i (r : Raw) => (∀ j, j < 4 → w.cell? (a.add (i * 4 + j)) = r.cells[j]?) ∧ r.ok) (n := m) hraw
    have hll : ((List.range len).map F).length = len := by simp
    simp only [Prod.mk.injEq] at hx
    refine ⟨some a, (List.range len).map F, m, by rw [hll], ⟨by rw [raws_len], fun hn => ⟨a, rfl, ?_, fun j u hu => ?_⟩⟩, by rw [hll]; exact hl, hm, ?_, .inr ⟨_, _, hx.1, by simp; omega⟩⟩
    · have hmem : (MemPlace.row a (m * P.cellsOf e) ++ List.flatMap Pl (List.range m)) ⊆ p := by rw [hx.2]; exact List.Subset.refl _
      have hm0 : 0 < m * P.cellsOf e := by rw [hC]; rw [hll] at hn; omega
      have h1 : ∃ x ∈ MemPlace.row a (m * P.cellsOf e), x.block = a.block := by
        refine ⟨MemPlace.cell a.block a.off, ?_, rfl⟩
        simp only [MemPlace.row, List.mem_map, List.mem_range]
        exact ⟨0, hm0, by simp⟩
      obtain ⟨x, hx1, hx2⟩ := h1
      rw [← hx2]
      exact hlt x (hmem (List.mem_append_left _ hx1))
    · have hj : j < ((List.range len).map F).length * 4 := by
        have := (List.getElem?_eq_some_iff.1 hu).1
        rwa [raws_len] at this
      rw [hll] at hj
      have hq := raws_at ((List.range len).map F) (j / 4) (j % 4) (by rw [hll]; omega) (by omega)
      rw [show j / 4 * 4 + j % 4 = j by omega, hu] at hq
      have := (hF (j / 4) (by omega)).1 (j % 4) (by omega)
      rw [show j / 4 * 4 + j % 4 = j by omega] at this
      rw [this, hq]
      simp
    · intro r hr
      obtain ⟨i, hi', rfl⟩ := List.mem_map.1 hr
      exact (hF i (by have := List.mem_range.1 hi'; omega)).2

theorem open_bytes {r : Reach} {b0 : Nat} {t e : TypeId} {v : Value} {d : DataW H} {p : List MemPlace} (ht : P.underlying t = some (.slice e)) (he : P.underlying e = some (.int .u8)) (hC : P.cellsOf e = 1)
    (hv : Value.okWide P w r b0 t v) (h : DataW.Trod enc P w base (fun _ => true) held t v d p) (hlt : ∀ x ∈ p, x.block < w.heap.size) :
    ∃ (A : Option Addr) (l : List UInt8) (c : Nat), v = .slice A l.length c ∧ RdB w w.heap.size A l ∧ l.length ≤ c ∧ c ≤ maxLen ∧ (d = .nil ∧ c = 0 ∨ ∃ es sp, d = .slice es sp ∧ es.length + sp.length = c) := by
  obtain ⟨A, len, cap, rfl⟩ := okWide_slice ht hv
  obtain ⟨fuel, hf⟩ := h
  rcases open_ints ht he hC hf with ⟨hcs, hx⟩ | ⟨a, len', cap', zs, hcs, _, hl, hm, hz, hx, hcell, hwz⟩
  · simp [Value.cells] at hcs hx
    obtain ⟨rfl, rfl, rfl⟩ := hcs
    exact ⟨none, [], 0, rfl, Reads.none_, by simp, by simp [maxLen], .inl ⟨hx.1, rfl⟩⟩
  · simp [Value.cells] at hcs
    obtain ⟨rfl, rfl, rfl⟩ := hcs
    simp at hz
    have hll : ((zs.take len).map fun z => UInt8.ofNat z.toNat).length = len := by simp; omega
    simp only [Prod.mk.injEq] at hx
    refine ⟨some a, (zs.take len).map fun z => UInt8.ofNat z.toNat, cap, by rw [hll], ⟨by rw [List.length_map, Nat.mul_one], fun hn => ⟨a, rfl, ?_, fun j u hu => ?_⟩⟩, by rw [hll]; exact hl, hm, .inr ⟨_, _, hx.1, by simp [lits]; omega⟩⟩
    · rw [hll] at hn
      have h1 : ∃ x ∈ MemPlace.row a zs.length, x.block = a.block := by
        refine ⟨MemPlace.cell a.block a.off, ?_, rfl⟩
        simp only [MemPlace.row, List.mem_map, List.mem_range]
        exact ⟨0, by omega, by simp⟩
      obtain ⟨x, hx1, hx2⟩ := h1
      rw [← hx2]
      exact hlt x (by rw [hx.2]; exact hx1)
    · rw [List.getElem?_map, List.getElem?_map, List.getElem?_take] at hu
      split at hu
      · rename_i hjl
        have hjz : j < zs.length := by omega
        rw [List.getElem?_eq_getElem hjz] at hu
        simp only [Option.map_some, Option.some.injEq] at hu
        subst hu
        have := hcell j hjz
        rw [this, List.getD_eq_getElem?_getD, List.getElem?_eq_getElem hjz]
        have hb := bounds_u8 (hwz zs[j] (List.getElem_mem hjz))
        simp only [Option.getD_some, B8]
        congr 2
        rw [UInt8.toNat_ofNat']
        omega
      · simp at hu

theorem open_nums {r : Reach} {b0 : Nat} {t e : TypeId} {v : Value} {d : DataW H} {p : List MemPlace} (ht : P.underlying t = some (.slice e)) (he : P.underlying e = some (.int .i64)) (hC : P.cellsOf e = 1)
    (hv : Value.okWide P w r b0 t v) (h : DataW.Trod enc P w base (fun _ => true) held t v d p) (hlt : ∀ x ∈ p, x.block < w.heap.size) :
    ∃ (A : Option Addr) (l : List Int) (c : Nat), v = .slice A l.length c ∧ RdI w w.heap.size A l ∧ l.length ≤ c ∧ c ≤ maxLen ∧ (∀ n ∈ l, I64 n) ∧ (d = .nil ∧ c = 0 ∨ ∃ es sp, d = .slice es sp ∧ es.length + sp.length = c) := by
  obtain ⟨A, len, cap, rfl⟩ := okWide_slice ht hv
  obtain ⟨fuel, hf⟩ := h
  rcases open_ints ht he hC hf with ⟨hcs, hx⟩ | ⟨a, len', cap', zs, hcs, _, hl, hm, hz, hx, hcell, hwz⟩
  · simp [Value.cells] at hcs hx
    obtain ⟨rfl, rfl, rfl⟩ := hcs
    exact ⟨none, [], 0, rfl, Reads.none_, by simp, by simp [maxLen], by simp, .inl ⟨hx.1, rfl⟩⟩
  · simp [Value.cells] at hcs
    obtain ⟨rfl, rfl, rfl⟩ := hcs
    simp at hz
    have hll : (zs.take len).length = len := by simp; omega
    simp only [Prod.mk.injEq] at hx
    refine ⟨some a, zs.take len, cap, by rw [hll], ⟨by rw [List.length_map, Nat.mul_one], fun hn => ⟨a, rfl, ?_, fun j u hu => ?_⟩⟩, by rw [hll]; exact hl, hm, ?_, .inr ⟨_, _, hx.1, by simp [lits]; omega⟩⟩
    · rw [hll] at hn
      have h1 : ∃ x ∈ MemPlace.row a zs.length, x.block = a.block := by
        refine ⟨MemPlace.cell a.block a.off, ?_, rfl⟩
        simp only [MemPlace.row, List.mem_map, List.mem_range]
        exact ⟨0, by omega, by simp⟩
      obtain ⟨x, hx1, hx2⟩ := h1
      rw [← hx2]
      exact hlt x (by rw [hx.2]; exact hx1)
    · rw [List.getElem?_map, List.getElem?_take] at hu
      split at hu
      · rename_i hjl
        have hjz : j < zs.length := by omega
        rw [List.getElem?_eq_getElem hjz] at hu
        simp only [Option.map_some, Option.some.injEq] at hu
        subst hu
        have := hcell j hjz
        rw [this, List.getD_eq_getElem?_getD, List.getElem?_eq_getElem hjz]
        simp
      · simp at hu
    · exact fun n hn => bounds_i64 (hwz n (List.mem_of_mem_take hn))

theorem okWide_arr {n : Nat} {e : TypeId} {r : Reach} {b0 : Nat} {t : TypeId} {v : Value} (ht : P.underlying t = some (.array n e)) (h : Value.okWide P w r b0 t v) : ∃ cs, v = .agg cs ∧ cs.size = P.cellsOf t := by
  simp only [Value.okWide, ht] at h
  obtain ⟨cs, h1, h2, _⟩ := h
  exact ⟨cs, h1, h2⟩
/-- An array of four bytes, by value. -/
theorem open_arr4 {r : Reach} {b0 : Nat} {t e : TypeId} {v : Value} {d : DataW H} {p : List MemPlace} (ht : P.underlying t = some (.array 4 e)) (he : P.underlying e = some (.int .u8)) (hC : P.cellsOf e = 1) (hT : P.cellsOf t = 4)
    (hv : Value.okWide P w r b0 t v) (h : DataW.Trod enc P w base spare held t v d p) : ∃ a b x y : UInt8, v = .agg #[B8 a, B8 b, B8 x, B8 y] := by
  obtain ⟨cs, rfl, hsz⟩ := okWide_arr ht hv
  obtain ⟨c0, c1, c2, c3, rfl⟩ := Joins.array4 (hsz.trans hT)
  obtain ⟨fuel, hf⟩ := h
  obtain ⟨xs, m, _, _, hlen, hxl, hg⟩ := DataW.trod_array ht hf
  obtain ⟨y0, y1, y2, y3, rfl⟩ : ∃ a b c d, xs = [a, b, c, d] := by
    match xs, hxl with
    | [a, b, c, d], _ => exact ⟨a, b, c, d, rfl⟩
  have g0 := hg 0 (by omega)
  have g1 := hg 1 (by omega)
  have g2 := hg 2 (by omega)
  have g3 := hg 3 (by omega)
  rw [hC] at g0 g1 g2 g3
  obtain ⟨n0, e0, _, b0⟩ := DataW.trod_int (x := y0) he (by simpa [Value.cells] using g0)
  obtain ⟨n1, e1, _, b1⟩ := DataW.trod_int (x := y1) he (by simpa [Value.cells] using g1)
  obtain ⟨n2, e2, _, b2⟩ := DataW.trod_int (x := y2) he (by simpa [Value.cells] using g2)
  obtain ⟨n3, e3, _, b3⟩ := DataW.trod_int (x := y3) he (by simpa [Value.cells] using g3)
  simp at e0 e1 e2 e3
  subst e0 e1 e2 e3
  have hb : ∀ n : Int, (Lit.int .u8 n).wf = true → Value.int .u8 n = B8 (UInt8.ofNat n.toNat) := fun n hn => by
    have := bounds_u8 hn
    unfold B8
    congr 1
    rw [UInt8.toNat_ofNat']
    omega
  exact ⟨_, _, _, _, by rw [hb _ b0, hb _ b1, hb _ b2, hb _ b3]⟩

/-- What the reach of the form says of a slice's capacity. -/
theorem reach_slice {ts : List TypeId} {ds : List (DataW H)} (h : (DataW.weightsEach P ts ds).all (· ≤ reachBytes) = true) {j : Nat} {t e : TypeId} {d : DataW H} {c size : Nat} (ht : ts[j]? = some t) (hd : ds[j]? = some d) (hu : P.underlying t = some (.slice e))
    (hb : P.bytesOf e = size) (hc : d = .nil ∧ c = 0 ∨ ∃ es sp, d = .slice es sp ∧ es.length + sp.length = c) : c * size ≤ 140737488351232 := by
  rcases hc with ⟨_, rfl⟩ | ⟨es, sp, rfl, rfl⟩
  · omega
  · have := sized_slice h ht hd hu
    rw [hb] at this
    exact this
end
end Go.Proofs.YtfplkakfakdfhaaDoor

