/-
  Lists of lines of bytes in memory; []byte of a text. No condition.
-/
import Derived.Test.YtgakkghlphnoaaaApp
import Derived.Test.YtgakkghlphnoaaaOpen
import Derived.Laws.IdiomStrings
namespace Go.Proofs.Ytgakkghlphnoaaa
set_option linter.unusedSimpArgs false
set_option linter.unusedVariables false
open Go.RowKit

/-- The values vs are slices that read as the lines ls, each away from block row. -/
def Subs (w : World) (B : Nat) (row : Option Nat) (vs : List Value) (ls : List (List UInt8)) : Prop :=
  vs.length = ls.length ∧ ∀ (i : Nat) (l : List UInt8), ls[i]? = some l → ∃ (A : Option Addr) (c : Nat), vs[i]? = some (Value.slice A l.length c) ∧ RdB w B A l ∧ l.length ≤ c ∧ c ≤ maxLen ∧ (∀ ad, A = some ad → row ≠ some ad.block ∧ ad.block < B)
theorem Subs.nil {w : World} {B : Nat} {row : Option Nat} : Subs w B row [] [] := ⟨rfl, fun i l h => by simp at h⟩
theorem Subs.keep {w w' : World} {B B' : Nat} {row row' : Option Nat} {vs : List Value} {ls : List (List UInt8)} (h : Subs w B row vs ls) (hB : B ≤ B')
    (hk : ∀ p : Addr, p.block < B → row ≠ some p.block → w'.cell? p = w.cell? p) (hr : ∀ k, k < B → row ≠ some k → row' ≠ some k) : Subs w' B' row' vs ls := by
  refine ⟨h.1, fun i l hl => ?_⟩
  obtain ⟨A, c, h1, h2, h3, h4, h5⟩ := h.2 i l hl
  refine ⟨A, c, h1, ⟨h2.1, fun hn => ?_⟩, h3, h4, fun ad e => ⟨hr _ (h5 ad e).2 (h5 ad e).1, Nat.lt_of_lt_of_le (h5 ad e).2 hB⟩⟩
  obtain ⟨ad, e, hb, hc⟩ := h2.2 hn
  refine ⟨ad, e, Nat.lt_of_lt_of_le hb hB, fun j u hu => ?_⟩
  rw [hk _ (by rw [block_of_add]; exact hb) (by rw [block_of_add]; exact (h5 ad e).1)]
  exact hc j u hu
theorem Subs.below {w w' : World} {B : Nat} {row : Option Nat} {vs : List Value} {ls : List (List UInt8)} (h : Subs w B row vs ls) (hb : Below B w w') : Subs w' B row vs ls :=
  h.keep (Nat.le_refl _) (fun p hp _ => hb.cell hp) (fun _ _ h => h)
theorem Subs.call {w w' : World} {B : Nat} {row : Option Nat} {vs : List Value} {ls : List (List UInt8)} (h : Subs w B row vs ls) (hb : Below w.heap.size w w') (hB : B ≤ w.heap.size) : Subs w' B row vs ls := h.below (hb.mono hB)
theorem Subs.more {w : World} {B B' : Nat} {row : Option Nat} {vs : List Value} {ls : List (List UInt8)} (h : Subs w B row vs ls) (hB : B ≤ B') : Subs w B' row vs ls := h.keep hB (fun _ _ _ => rfl) (fun _ _ h => h)
/-- Behind an append onto the row itself. -/
theorem Subs.app {w w' : World} {B : Nat} {row row' : Option Nat} {vs : List Value} {ls : List (List UInt8)} (h : Subs w B row vs ls) (hB : B ≤ w.heap.size) (hg : w.grownBy w' row) (hr : row' = row ∨ row' = some w.heap.size) : Subs w' B row' vs ls :=
  h.keep (Nat.le_refl _) (fun p hp hne => World.cell?_of_block (hg.block p.block (by omega) (fun e => hne e.symm))) (fun k hk hne => by
    rcases hr with rfl | rfl
    · exact hne
    · intro e; injection e with e; omega)
theorem Subs.snoc {w : World} {B : Nat} {row : Option Nat} {vs : List Value} {ls : List (List UInt8)} (h : Subs w B row vs ls) {A : Option Addr} {l : List UInt8} {c : Nat} (hr : RdB w B A l) (hl : l.length ≤ c) (hc : c ≤ maxLen)
    (hne : ∀ ad, A = some ad → row ≠ some ad.block ∧ ad.block < B) : Subs w B row (vs ++ [Value.slice A l.length c]) (ls ++ [l]) := by
  refine ⟨by simp [h.1], fun i m hm => ?_⟩
  by_cases hi : i < ls.length
  · rw [List.getElem?_append_left hi] at hm
    rw [List.getElem?_append_left (by rw [h.1]; exact hi)]
    exact h.2 i m hm
  · rw [List.getElem?_append_right (by omega)] at hm
    rw [List.getElem?_append_right (by rw [h.1]; omega), h.1]
    match hj : i - ls.length, hm with
    | 0, hm =>
      simp at hm
      subst hm
      exact ⟨A, c, by simp, hr, hl, hc, hne⟩
/-- The slice '.slice A ls.length c' reads as the lines ls. -/
def RdL (w : World) (B : Nat) (A : Option Addr) (ls : List (List UInt8)) : Prop := ∃ vs, Reads w B 1 A ls.length vs ∧ Subs w B none vs ls
section
variable {w w' : World} {B B' : Nat} {A : Option Addr} {ls : List (List UInt8)}
theorem RdL.below (h : RdL w B A ls) (hb : Below B w w') : RdL w' B A ls := let ⟨vs, h1, h2⟩ := h; ⟨vs, h1.below hb, h2.below hb⟩
theorem RdL.call (h : RdL w B A ls) (hb : Below w.heap.size w w') (hB : B ≤ w.heap.size) : RdL w' B A ls := h.below (hb.mono hB)
theorem RdL.more (h : RdL w B A ls) (hB : B ≤ B') : RdL w B' A ls := let ⟨vs, h1, h2⟩ := h; ⟨vs, h1.more hB, h2.more hB⟩
theorem RdL.drew (h : RdL w B A ls) : RdL w.drew B A ls := h.below (Below.refl _ _).drew
theorem RdL.drewN (h : RdL w B A ls) (k : Nat) : RdL (w.drewN k) B A ls := h.below (below_drewN (Below.refl _ _) k)
theorem RdL.alloc (h : RdL w B A ls) (hB : B ≤ w.heap.size) (o : Obj) : RdL (w.alloc o) B A ls := h.below ((Below.refl _ _).alloc hB o)
theorem RdL.at_ (h : RdL w B A ls) {k : Nat} (hk : k < ls.length) : ∃ b off A' c', A = some ⟨b, off, none⟩ ∧ b < B ∧ w.cell? ⟨b, off + k, none⟩ = some (.slice A' (ls[k]).length c') ∧ RdB w B A' ls[k] ∧ (ls[k]).length ≤ c' ∧ c' ≤ maxLen := by
  obtain ⟨vs, h1, h2⟩ := h
  obtain ⟨b, off, u, e, hb, hu, hc⟩ := h1.at_ hk
  obtain ⟨A', c', h3, h4, h5, h6, _⟩ := h2.2 k ls[k] (List.getElem?_eq_getElem hk)
  rw [h3] at hu
  injection hu with hu
  subst hu
  exact ⟨b, off, A', c', e, hb, hc, h4, h5, h6⟩
theorem RdL.of_own {base : Nat} {e : TypeId} {c : Nat} {vs : List Value} {row : Option Nat} (h : w.ownsRow base e 1 (.slice A ls.length c) ls.length vs) (hs : Subs w B row vs ls) (hB : B ≤ w.heap.size) : RdL w w.heap.size A ls :=
  ⟨vs, Reads.of_own h, (hs.more hB).keep (Nat.le_refl _) (fun _ _ _ => rfl) (fun _ _ _ => by simp)⟩
theorem RdL.none_ : RdL w B none [] := ⟨[], Reads.none_, Subs.nil⟩
end

/-- []byte(s): new memory that reads as the text. -/
theorem conv_bytes (w : World) (s : ByteArray) (hs : s.size ≤ maxLen) (g : Nat) (hg : w.heap.size = g) : ∃ c w', (convert 9 22 (.string s)).run Try.prog w = .ok (.slice (some ⟨g, 0, none⟩) s.toList.length c) w' ∧ RdB w' (g + 1) (some ⟨g, 0, none⟩) s.toList ∧
    s.toList.length ≤ c ∧ c ≤ maxLen ∧ Below g w w' ∧ w'.heap.size = g + 1 := by
  subst hg
  have hl : s.toList.length = s.size := by rw [ByteArray.toList_eq, Array.length_toList]; rfl
  have hrun := run_bytes_of_string w 9 22 5 s Try.underlying9 Try.underlying22 Try.underlying5
  refine ⟨grownCap w s.size 0 5, _, by rw [hl]; exact hrun, ?_, by rw [hl]; exact grownCap_ge _ _ _ _, grownCap_le_maxLen _ _ _ _ hs, (Below.refl _ _).drew.alloc (Nat.le_refl _) _, by simp⟩
  refine ⟨by simp, fun _ => ⟨_, rfl, Nat.lt_succ_self _, fun j u hu => ?_⟩⟩
  have e2 : (⟨w.heap.size, 0, none⟩ : Addr).add j = ⟨w.heap.size, j, none⟩ := by unfold Addr.add; split <;> simp_all
  rw [e2]
  have hjl : j < s.toList.length := by have := (List.getElem?_eq_some_iff.1 hu).1; simpa using this
  rw [cell_of_row _ w.heap.size j _ _ _ (heap_alloc_new w.drew _)]
  unfold bytesRow
  rw [Array.getElem?_append_left (by simp; rw [hl] at hjl; exact hjl)]
  rw [List.getElem?_map] at hu
  rw [Array.getElem?_map, ← hu]
  rw [ByteArray.toList_eq, Array.getElem?_toList]
  rfl
end Go.Proofs.Ytgakkghlphnoaaa
