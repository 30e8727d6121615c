/-
  An index, as plain laws: keys of a number and a place. No condition but that numbers are told in order.
-/
import Derived.Test.YtfplkakfakdfhaaDoorZM19
import Derived.Test.YtfplkakfakdfhaaDoorZM11
namespace Go.Proofs.YtfplkakfakdfhaaDoor
set_option linter.unusedSimpArgs false
set_option linter.unusedVariables false

/-- Numbers told as bytes, in order. -/
structure Tells (E : Int → List UInt8) : Prop where
  len : ∀ n, (E n).length ≤ 40
  lt : ∀ n m, -9223372036854775808 ≤ n → n < m → m ≤ 9223372036854775807 → ∀ s t, Op.bytesLess (E n ++ s) (E m ++ t) = true
def keyI (E : Int → List UInt8) (n : Int) (i : Nat) : ByteArray := byS (E n ++ [UInt8.ofNat (i / 256), UInt8.ofNat (i % 256)])
theorem lt_byB (x y : List UInt8) : ltB (byS x) (byS y) = Op.bytesLess x y := by
  show Op.bytesLess (byS x).toList (byS y).toList = _
  rw [ByteArray.toList_eq, ByteArray.toList_eq]
theorem less_pre : ∀ p x y : List UInt8, Op.bytesLess (p ++ x) (p ++ y) = Op.bytesLess x y
  | [], _, _ => rfl
  | a :: p, x, y => by
    rw [List.cons_append, List.cons_append]
    simp [Op.bytesLess, less_pre p x y]
theorem key_lt1 {E : Int → List UInt8} (hE : Tells E) {n m : Int} (h1 : -9223372036854775808 ≤ n) (h2 : n < m) (h3 : m ≤ 9223372036854775807) (i j : Nat) : ltB (keyI E n i) (keyI E m j) = true := by
  rw [keyI, keyI, lt_byB]
  exact hE.lt n m h1 h2 h3 _ _
theorem key_lt2 {E : Int → List UInt8} {n : Int} {i j : Nat} (h1 : i < j) (h2 : j < 65536) : ltB (keyI E n i) (keyI E n j) = true := by
  rw [keyI, keyI, lt_byB, less_pre]
  by_cases h : i / 256 < j / 256
  · have : (UInt8.ofNat (i / 256)) < (UInt8.ofNat (j / 256)) := by rw [UInt8.lt_iff_toNat_lt]; simp; omega
    simp [Op.bytesLess, this]
  · have e : i / 256 = j / 256 := by omega
    have : (UInt8.ofNat (i % 256)) < (UInt8.ofNat (j % 256)) := by rw [UInt8.lt_iff_toNat_lt]; simp; omega
    rw [e]
    simp [Op.bytesLess, this]
theorem key_size {E : Int → List UInt8} (hE : Tells E) (n : Int) (i : Nat) : (keyI E n i).size ≤ 60 := by
  have h1 : (keyI E n i).size = (E n ++ [UInt8.ofNat (i / 256), UInt8.ofNat (i % 256)]).length := by
    show (E n ++ [UInt8.ofNat (i / 256), UInt8.ofNat (i % 256)]).toArray.size = _
    rw [List.size_toArray]
  have := hE.len n
  rw [h1, List.length_append]
  simp only [List.length_cons, List.length_nil]
  omega
def I6 (n : Int) : Prop := -9223372036854775808 ≤ n ∧ n ≤ 9223372036854775807
theorem key_inj {E : Int → List UInt8} (hE : Tells E) {n m : Int} {i j : Nat} (hn : I6 n) (hm : I6 m) (hi : i < 65536) (hj : j < 65536) (h : keyI E n i = keyI E m j) : n = m ∧ i = j := by
  have e1 : n = m := by
    rcases Int.lt_trichotomy n m with h2 | h2 | h2
    · exact absurd h (lt_ne (key_lt1 hE hn.1 h2 hm.2 i j))
    · exact h2
    · exact absurd h.symm (lt_ne (key_lt1 hE hm.1 h2 hn.2 j i))
  subst e1
  refine ⟨rfl, ?_⟩
  rcases Nat.lt_trichotomy i j with h2 | h2 | h2
  · exact absurd h (lt_ne (key_lt2 h2 hj))
  · exact h2
  · exact absurd h.symm (lt_ne (key_lt2 h2 hi))
theorem key_le {E : Int → List UInt8} (hE : Tells E) {n m : Int} {i j : Nat} (hn : I6 n) (hm : I6 m) (hi : i < 65536) (hj : j < 65536) : leB (keyI E n i) (keyI E m j) = decide (n < m ∨ (n = m ∧ i ≤ j)) := by
  show (ltB (keyI E n i) (keyI E m j) || (keyI E n i).toList == (keyI E m j).toList) = _
  rcases Int.lt_trichotomy n m with h2 | h2 | h2
  · rw [key_lt1 hE hn.1 h2 hm.2 i j, Bool.true_or, decide_eq_true (.inl h2)]
  · subst h2
    rcases Nat.lt_trichotomy i j with h3 | h3 | h3
    · rw [key_lt2 h3 hj, Bool.true_or, decide_eq_true (.inr ⟨rfl, by omega⟩)]
    · subst h3
      rw [decide_eq_true (.inr ⟨rfl, Nat.le_refl _⟩)]
      simp
    · have h4 := key_lt2 (E := E) (n := n) h3 hi
      rw [lt_asym h4, Bool.false_or, decide_eq_false (by omega), beq_eq_false_iff_ne]
      exact fun e => lt_ne h4 (key_eq e).symm
  · have h4 := key_lt1 hE hm.1 h2 hn.2 j i
    rw [lt_asym h4, Bool.false_or, decide_eq_false (by omega), beq_eq_false_iff_ne]
    exact fun e => lt_ne h4 (key_eq e).symm
/-- The index of the first k numbers. -/
def ixO (E : Int → List UInt8) (N : List Int) : Nat → Option (Nat × Tn)
  | 0 => none
  | k + 1 => growO (keyI E (N.getD k 0) k) (k : Int) (ixO E N k)
structure IxOk (E : Int → List UInt8) (N : List Int) (k : Nat) : Prop where
  good : Good (ixO E N k)
  len : (itemsO (ixO E N k)).length = k
  of : ∀ p ∈ itemsO (ixO E N k), ∃ i, i < k ∧ p = (keyI E (N.getD i 0) i, (i : Int))
  cnt : ∀ f : ByteArray × Int → Bool, ((itemsO (ixO E N k)).filter f).length = ((List.range k).filter fun i => f (keyI E (N.getD i 0) i, (i : Int))).length
theorem filt_ins {α : Type} (f : α → Bool) (l : List α) (j : Nat) (x : α) : ((l.take j ++ x :: l.drop j).filter f).length = (l.filter f).length + (if f x = true then 1 else 0) := by
  conv => rhs; rw [← List.take_append_drop j l]
  rw [List.filter_append, List.filter_append, List.length_append, List.length_append, List.filter_cons]
  split <;> simp <;> omega
theorem filt_range (g : Nat → Bool) (k : Nat) : ((List.range (k + 1)).filter g).length = ((List.range k).filter g).length + (if g k = true then 1 else 0) := by
  rw [List.range_succ, List.filter_append, List.length_append, List.filter_cons, List.filter_nil]
  split <;> rfl
theorem ix_ok {E : Int → List UInt8} (hE : Tells E) {N : List Int} (hN : ∀ i, I6 (N.getD i 0)) : ∀ k, k ≤ 100 → IxOk E N k
  | 0, _ => ⟨good_nil, rfl, fun p hp => (by cases hp), fun f => rfl⟩
  | k + 1, h => by
    have ih := ix_ok hE hN k (by omega)
    have hno : lookL (keyI E (N.getD k 0) k) (itemsO (ixO E N k)) = none := lookL_none fun p hp e => by
      obtain ⟨i, hi, rfl⟩ := ih.of p hp
      have := (key_inj hE (hN i) (hN k) (by omega) (by omega) e).2
      omega
    have hit : itemsO (ixO E N (k + 1)) = putL (keyI E (N.getD k 0) k) (k : Int) (itemsO (ixO E N k)) := growO_items _ _ _ ih.good.sh ih.good.asc
    have hput := ((at_all (key := keyI E (N.getD k 0) k) (val := (k : Int)) ih.good.asc).2 fun p hp => lookL_no hno p (List.mem_of_getElem? hp)).2
    refine ⟨good_put ih.good _ (key_size hE _ _) (.inr (by rw [ih.len]; omega)), ?_, fun p hp => ?_, fun f => ?_⟩
    · rw [hit, putL_len ih.good.asc, hno, ih.len]; rfl
    · rw [hit] at hp
      rcases putL_mem hp with rfl | hp
      · exact ⟨k, by omega, rfl⟩
      · obtain ⟨i, hi, he⟩ := ih.of p hp
        exact ⟨i, by omega, he⟩
    · have hc := ih.cnt f
      rw [hit, hput, filt_ins, hc, filt_range]
/-- What an index finds within a range. -/
def pickI (E : Int → List UInt8) (N : List Int) (k : Nat) (lo hi : Int) : Pairs := spanL (keyI E lo 0) (keyI E hi 65535) (itemsO (ixO E N k))
theorem pick_of {E : Int → List UInt8} (hE : Tells E) {N : List Int} (hN : ∀ i, I6 (N.getD i 0)) {k : Nat} (hk : k ≤ 100) {lo hi : Int} (hlo : I6 lo) (hhi : I6 hi) : ∀ p ∈ pickI E N k lo hi, ∃ i, i < k ∧ p = (keyI E (N.getD i 0) i, (i : Int)) ∧ lo ≤ N.getD i 0 ∧ N.getD i 0 ≤ hi := fun p hp => by
  obtain ⟨h1, h2⟩ := List.mem_filter.1 hp
  obtain ⟨i, hi2, rfl⟩ := (ix_ok hE hN k hk).of p h1
  refine ⟨i, hi2, rfl, ?_⟩
  dsimp only at h2
  rw [key_le hE hlo (hN i) (by omega) (by omega), key_le hE (hN i) hhi (by omega) (by omega), Bool.and_eq_true, decide_eq_true_eq, decide_eq_true_eq] at h2
  omega
theorem pick_len {E : Int → List UInt8} (hE : Tells E) {N : List Int} (hN : ∀ i, I6 (N.getD i 0)) {k : Nat} (hk : k ≤ 100) {lo hi : Int} (hlo : I6 lo) (hhi : I6 hi) : (pickI E N k lo hi).length = ((List.range k).filter fun i => decide (lo ≤ N.getD i 0) && decide (N.getD i 0 ≤ hi)).length := by
  unfold pickI spanL
  rw [(ix_ok hE hN k hk).cnt]
  congr 1
  refine List.filter_congr fun i hi2 => ?_
  have hi3 : i < k := by simpa using hi2
  dsimp only
  rw [key_le hE hlo (hN i) (by omega) (by omega), key_le hE (hN i) hhi (by omega) (by omega)]
  rw [Bool.eq_iff_iff]
  simp only [Bool.and_eq_true, decide_eq_true_eq]
  omega
/-- They stand by number and place. -/
theorem pick_asc {E : Int → List UInt8} (hE : Tells E) {N : List Int} (hN : ∀ i, I6 (N.getD i 0)) {k : Nat} (hk : k ≤ 100) {lo hi : Int} : Asc (pickI E N k lo hi) := (ix_ok hE hN k hk).good.asc.filter _
theorem pick_next {E : Int → List UInt8} (hE : Tells E) {N : List Int} (hN : ∀ i, I6 (N.getD i 0)) {i j : Nat} (hi : i < 65536) (hj : j < 65536) (h : ltB (keyI E (N.getD i 0) i) (keyI E (N.getD j 0) j) = true) : N.getD i 0 < N.getD j 0 ∨ (N.getD i 0 = N.getD j 0 ∧ i < j) := by
  rcases Int.lt_trichotomy (N.getD i 0) (N.getD j 0) with h2 | h2 | h2
  · exact .inl h2
  · refine .inr ⟨h2, ?_⟩
    rcases Nat.lt_trichotomy i j with h3 | h3 | h3
    · exact h3
    · subst h3; rw [lt_irr] at h; cases h
    · have h4 := key_lt2 (E := E) (n := N.getD j 0) h3 hi
      rw [h2, lt_asym h4] at h
      cases h
  · have h4 := key_lt1 hE (hN j).1 h2 (hN i).2 j i
    rw [lt_asym h4] at h
    cases h
end Go.Proofs.YtfplkakfakdfhaaDoor


/-
  The pure layer: a row of rows that are one's own, as one box (cells of the inner rows: no slices, no structs). No condition.
-/
namespace Go.Proofs.YtfplkakfakdfhaaDoor
set_option linter.unusedSimpArgs false
set_option linter.unusedVariables false
open Go.RowKit

/-- The types: of an inner row (as a slice), of its elements, and how many cells one has. -/
structure NsTy where
  T : TypeId
  E : TypeId
  sz : Nat
abbrev Ir := List (List Value)
def Sc (sz : Nat) (l : Ir) : Prop := ∀ e ∈ l, e.length = sz ∧ ∀ x ∈ e, x.oneCell' = true
def rowE (l : Ir) : List (List D) := l.map fun e => e.map D.sc
theorem rowE_len (l : Ir) : (rowE l).length = l.length := List.length_map _
theorem nrepC_sc (I : Nat → Prop) (w : World) : ∀ e : List Value, (∀ x ∈ e, x.oneCell' = true) → RepC I w true (e.map D.sc) e
  | [], _ => rfl
  | x :: e, h => ⟨x, e, rfl, fun _ => rfl, ⟨rfl, h x (by simp)⟩, nrepC_sc I w e fun y hy => h y (by simp [hy])⟩
theorem repR_sc (I : Nat → Prop) (w : World) (sz : Nat) : ∀ l : Ir, Sc sz l → RepR I w sz (rowE l) l.flatten
  | [], _ => rfl
  | e :: l, h => ⟨e, l.flatten, rfl, by rw [List.length_map]; exact (h e (by simp)).1, nrepC_sc I w e (h e (by simp)).2, repR_sc I w sz l fun y hy => h y (by simp [hy])⟩
theorem sc_repC {I : Nat → Prop} {w : World} : ∀ {e : List Value} {us : List Value}, RepC I w true (e.map D.sc) us → us = e ∧ ∀ x ∈ e, x.oneCell' = true
  | [], _, h => ⟨h, fun _ hx => (by cases hx)⟩
  | x :: e, _, ⟨u, us, h1, _, ⟨h2, h3⟩, h4⟩ => by
    obtain ⟨e1, e2⟩ := sc_repC h4
    subst h1 h2 e1
    refine ⟨rfl, fun y hy => ?_⟩
    rcases List.mem_cons.1 hy with rfl | hy
    · exact h3
    · exact e2 y hy
theorem sc_repR {I : Nat → Prop} {w : World} {sz : Nat} : ∀ {l : Ir} {xs : List Value}, RepR I w sz (rowE l) xs → xs = l.flatten ∧ Sc sz l
  | [], _, h => ⟨h, fun _ hx => (by cases hx)⟩
  | e :: l, _, ⟨us, us', h1, h2, h3, h4⟩ => by
    obtain ⟨e1, e2⟩ := sc_repC h3
    obtain ⟨e3, e4⟩ := sc_repR h4
    subst h1 e1 e3
    rw [List.length_map] at h2
    refine ⟨rfl, fun y hy => ?_⟩
    rcases List.mem_cons.1 hy with rfl | hy
    · exact ⟨h2, e2⟩
    · exact e4 y hy
def InnerRep (Q : NsTy) (w : World) (l : Ir) (v : Value) (fs : List Nat) : Prop := w.ownsRow 0 Q.E Q.sz v l.length l.flatten ∧ Sc Q.sz l ∧ fs = blkL v
theorem blkL_nodup (v : Value) : (blkL v).Nodup := by unfold blkL; cases blk v <;> simp
theorem InnerRep.stay {Q : NsTy} {w w' : World} {l : Ir} {v : Value} {fs : List Nat} (h : InnerRep Q w l v fs) (hs : ∀ g ∈ fs, w'.heap[g]? = w.heap[g]?) : InnerRep Q w' l v fs :=
  ⟨ownsRow_same h.1 fun g hg => hs g (by rw [h.2.2]; exact blkL_mem hg), h.2.1, h.2.2⟩
def RowsRep (Q : NsTy) (w : World) : List Ir → List Value → List Nat → Prop
  | [], xs, fs => xs = [] ∧ fs = []
  | l :: ls, xs, fs => ∃ p ps f1 f2, xs = p :: ps ∧ InnerRep Q w l p f1 ∧ RowsRep Q w ls ps f2 ∧ fs = f1 ++ f2 ∧ fs.Nodup
theorem RowsRep.stay {Q : NsTy} {w w' : World} : ∀ (ls : List Ir) {ps : List Value} {fs : List Nat}, RowsRep Q w ls ps fs → (∀ g ∈ fs, w'.heap[g]? = w.heap[g]?) → RowsRep Q w' ls ps fs
  | [], _, _, h, _ => h
  | l :: ls, _, fs, ⟨p, ps, f1, f2, h1, h2, h3, h4, h5⟩, hs => ⟨p, ps, f1, f2, h1, h2.stay (fun g hg => hs g (by rw [h4]; simp [hg])), RowsRep.stay ls h3 (fun g hg => hs g (by rw [h4]; simp [hg])), h4, h5⟩
theorem RowsRep.det {Q : NsTy} {w : World} : ∀ (ls : List Ir) {ps : List Value} {fs fs' : List Nat}, RowsRep Q w ls ps fs → RowsRep Q w ls ps fs' → fs = fs'
  | [], _, _, _, h, h' => h.2.trans h'.2.symm
  | l :: ls, _, fs, fs', ⟨p, ps, f1, f2, h1, h2, h3, h4, h5⟩, ⟨p', ps', f1', f2', k1, k2, k3, k4, k5⟩ => by
    subst h1
    injection k1 with e1 e2
    subst e1 e2
    rw [h4, k4, h2.2.2, k2.2.2, RowsRep.det ls h3 k3]
theorem rows_len {Q : NsTy} {w : World} : ∀ {ls : List Ir} {ps : List Value} {fs : List Nat}, RowsRep Q w ls ps fs → ps.length = ls.length
  | [], _, _, h => by rw [h.1]; rfl
  | t :: ts, _, _, ⟨p, ps, f1, f2, h1, _, h3, _⟩ => by rw [h1, List.length_cons, List.length_cons, rows_len h3]
theorem inner_one {Q : NsTy} {w : World} {l : Ir} {p : Value} {fs : List Nat} (h : InnerRep Q w l p fs) : p.oneCell' = true := by
  obtain ⟨ad, c, rfl, _⟩ := own_form h.1
  rfl
theorem rows_one {Q : NsTy} {w : World} : ∀ {ls : List Ir} {ps : List Value} {fs : List Nat}, RowsRep Q w ls ps fs → ∀ p ∈ ps, p.oneCell' = true
  | [], _, _, h, p, hp => by rw [h.1] at hp; cases hp
  | l :: ls, _, _, ⟨p', ps, f1, f2, h1, h2, h3, _⟩, p, hp => by
    rw [h1] at hp
    rcases List.mem_cons.1 hp with rfl | hp
    · exact inner_one h2
    · exact rows_one h3 p hp
theorem rows_nodup {Q : NsTy} {w : World} : ∀ {ls : List Ir} {ps : List Value} {fs : List Nat}, RowsRep Q w ls ps fs → fs.Nodup
  | [], _, _, h => by rw [h.2]; exact List.nodup_nil
  | t :: ts, _, _, ⟨p, ps, f1, f2, _, _, _, _, h⟩ => h
theorem rows_app {Q : NsTy} {w : World} : ∀ {a b : List Ir} {pa pb : List Value} {fs : List Nat}, pa.length = a.length → RowsRep Q w (a ++ b) (pa ++ pb) fs →
    ∃ fa fb, RowsRep Q w a pa fa ∧ RowsRep Q w b pb fb ∧ fs = fa ++ fb
  | [], b, pa, pb, fs, hl, h => by
    have := List.length_eq_zero_iff.1 hl
    subst this
    exact ⟨[], fs, ⟨rfl, rfl⟩, h, rfl⟩
  | t :: a, b, [], pb, fs, hl, h => by cases hl
  | t :: a, b, q :: pa, pb, fs, hl, ⟨p, ps, f1, f2, h1, h2, h3, h4, h5⟩ => by
    injection h1 with e1 e2
    subst e1 e2
    obtain ⟨fa, fb, k1, k2, k3⟩ := rows_app (by simpa using hl) h3
    subst k3 h4
    refine ⟨f1 ++ fa, fb, ⟨q, pa, f1, fa, rfl, h2, k1, rfl, ?_⟩, k2, (List.append_assoc _ _ _).symm⟩
    rw [← List.append_assoc] at h5
    exact (List.nodup_append.1 h5).1
theorem app_rows {Q : NsTy} {w : World} : ∀ {a b : List Ir} {pa pb : List Value} {fa fb : List Nat}, RowsRep Q w a pa fa → RowsRep Q w b pb fb → (∀ g ∈ fa, g ∉ fb) → RowsRep Q w (a ++ b) (pa ++ pb) (fa ++ fb)
  | [], b, pa, pb, fa, fb, h, h2, _ => by
    obtain ⟨rfl, rfl⟩ := h
    exact h2
  | t :: a, b, pa, pb, fa, fb, ⟨p, ps, f1, f2, h1, h2, h3, h4, h5⟩, hb, hd => by
    subst h1 h4
    have k := app_rows h3 hb fun g hg => hd g (List.mem_append_right _ hg)
    refine ⟨p, ps ++ pb, f1, f2 ++ fb, rfl, h2, k, List.append_assoc _ _ _, ?_⟩
    refine List.nodup_append.2 ⟨h5, rows_nodup hb, fun x hx y hy e => ?_⟩
    subst e
    exact hd x hx hy
theorem rows_one_of {Q : NsTy} {w : World} {l : Ir} {p : Value} {fs : List Nat} (h : InnerRep Q w l p fs) : RowsRep Q w [l] [p] fs := ⟨p, [], fs, [], rfl, h, ⟨rfl, rfl⟩, (List.append_nil _).symm, by rw [h.2.2]; exact blkL_nodup p⟩
theorem one_of_rows {Q : NsTy} {w : World} {l : Ir} {p : Value} {fs : List Nat} (h : RowsRep Q w [l] [p] fs) : InnerRep Q w l p fs := by
  obtain ⟨q, ps, f1, f2, h1, h2, h3, h4, h5⟩ := h
  injection h1 with e1 e2
  subst e1
  rw [h4, h3.2, List.append_nil]
  exact h2
/-- Rows that these slices have. -/
def rowsR (Q : NsTy) (ls : List Ir) (ps : List Value) : Res := ⟨fun w _ fs => RowsRep Q w ls ps fs, fun h hs => RowsRep.stay ls h hs, fun h h' => RowsRep.det ls h h'⟩
def NestRep (Q : NsTy) (w : World) (ls : List Ir) (v : Value) (fs : List Nat) : Prop := ∃ xs f0, w.ownsRow 0 Q.T 1 v ls.length xs ∧ RowsRep Q w ls xs f0 ∧ fs = blkL v ++ f0 ∧ fs.Nodup
/-- A row of rows. -/
def nestR (Q : NsTy) (ls : List Ir) : Res := ⟨fun w v fs => NestRep Q w ls v fs, fun {w w' v fs} h hs => by
    obtain ⟨xs, f0, h1, h2, h3, h4⟩ := h
    exact ⟨xs, f0, ownsRow_same h1 (fun g hg => hs g (by rw [h3]; simp [blkL_mem hg])), RowsRep.stay ls h2 (fun g hg => hs g (by rw [h3]; simp [hg])), h3, h4⟩, fun {w v fs fs'} h h' => by
    obtain ⟨xs, f0, h1, h2, h3, h4⟩ := h
    obtain ⟨xs', f0', k1, k2, k3, k4⟩ := h'
    rw [ownsRow_det h1 k1] at h2
    rw [h3, k3, RowsRep.det ls h2 k2]⟩
/-- The rows but for one, that another box has. -/
def nestHole (Q : NsTy) (l1 l2 : List Ir) : Rel := ⟨fun w u v fs => ∃ p1 p2 f0, w.ownsRow 0 Q.T 1 v (l1.length + 1 + l2.length) (p1 ++ u :: p2) ∧ p1.length = l1.length ∧ RowsRep Q w (l1 ++ l2) (p1 ++ p2) f0 ∧ fs = blkL v ++ f0 ∧ fs.Nodup, fun {w w' u v fs} h hs => by
    obtain ⟨p1, p2, f0, h1, h2, h3, h4, h5⟩ := h
    exact ⟨p1, p2, f0, ownsRow_same h1 (fun g hg => hs g (by rw [h4]; simp [blkL_mem hg])), h2, RowsRep.stay _ h3 (fun g hg => hs g (by rw [h4]; simp [hg])), h4, h5⟩, fun {w u u' v fs fs'} h h' => by
    obtain ⟨p1, p2, f0, h1, h2, h3, h4, h5⟩ := h
    obtain ⟨q1, q2, f0', k1, k2, k3, k4, k5⟩ := h'
    have e := ownsRow_det h1 k1
    obtain ⟨e1, e2⟩ := List.append_inj e (h2.trans k2.symm)
    injection e2 with e2 e3
    subst e1 e3
    rw [h4, k4, RowsRep.det _ h3 k3]⟩
section
variable {Q : NsTy} {σ : Sl} {β : Bx} {C : Ctx} {a : Act} {w : World} {ρ : Nat → Value} {I : Nat → Prop}
theorem row_inner {id : Nat} {l : Ir} (h : BoxRep ρ I w id (.row Q.E Q.sz (rowE l))) : InnerRep Q w l (ρ id) (blkL (ρ id)) := by
  obtain ⟨xs, h1, h2⟩ := h
  obtain ⟨e1, e2⟩ := sc_repR h2
  rw [rowE_len, e1] at h1
  exact ⟨h1, e2, rfl⟩
theorem inner_row {id : Nat} {l : Ir} {fs : List Nat} (h : InnerRep Q w l (ρ id) fs) : BoxRep ρ I w id (.row Q.E Q.sz (rowE l)) := ⟨l.flatten, by rw [rowE_len]; exact h.1, repR_sc I w Q.sz l h.2.1⟩
/-- A row is given back. -/
theorem mem_nback (i3 j : Nat) {l : Ir} {l1 l2 : List Ir} (hl : look i3 β = some (.rel j (nestHole Q l1 l2))) (hj : look j β = some (.row Q.E Q.sz (rowE l))) (hm : Mem C β ρ I w) :
    Mem C ([(i3, .res (nestR Q (l1 ++ l :: l2))), (j, .dead)] ++ β) ρ I w := by
  obtain ⟨fs, p1, p2, f0, b1, b2, b3, b4, b5⟩ := hm.box i3 _ hl
  have ht := row_inner (hm.box j _ hj)
  have hne : i3 ≠ j := fun e => by rw [e, hj] at hl; cases hl
  have hh0 : (nestHole Q l1 l2).rep w (ρ j) (ρ i3) fs := ⟨p1, p2, f0, b1, b2, b3, b4, b5⟩
  have hx1 : ∀ k ∈ fs, (Box.rel j (nestHole Q l1 l2)).has w (ρ i3) k := fun k hk => ⟨_, fs, hh0, hk⟩
  have hx2 : ∀ k ∈ blkL (ρ j), (Box.row Q.E Q.sz (rowE l)).has w (ρ j) k := fun k hk => by unfold blkL at hk; exact (by simpa using hk : blk (ρ j) = some k)
  have hd : ∀ k ∈ fs, k ∉ blkL (ρ j) := fun k h h' => hne (hm.inj i3 j _ _ k hl hj (hx1 k h) (hx2 k h'))
  obtain ⟨fa, fb, c1, c2, c3⟩ := rows_app b2 b3
  have knd := rows_nodup b3
  rw [c3] at knd
  have in0 : ∀ g ∈ f0, g ∈ fs := fun g hg => by rw [b4]; exact List.mem_append_right _ hg
  have knew := app_rows c1 (app_rows (rows_one_of ht) c2 fun g hg hb => hd g (in0 g (by rw [c3]; simp [hb])) hg) fun g hg hb => by
    rcases List.mem_append.1 hb with hb | hb
    · exact hd g (in0 g (by rw [c3]; simp [hg])) hb
    · exact (List.nodup_append.1 knd).2.2 g hg g hb rfl
  rw [b4] at b5
  have hnew : NestRep Q w (l1 ++ l :: l2) (ρ i3) (blkL (ρ i3) ++ (fa ++ (blkL (ρ j) ++ fb))) := by
    refine ⟨p1 ++ ρ j :: p2, _, ?_, knew, rfl, List.nodup_append.2 ⟨(List.nodup_append.1 b5).1, rows_nodup knew, fun x hx y hy e => ?_⟩⟩
    · have : (l1 ++ l :: l2).length = l1.length + 1 + l2.length := by rw [List.length_append, List.length_cons]; omega
      rw [this]; exact b1
    · subst e
      have hin : x ∈ fs := by rw [b4]; exact List.mem_append_left _ hx
      rcases List.mem_append.1 hy with h | h
      · exact (List.nodup_append.1 b5).2.2 x hx x (by rw [c3]; simp [h]) rfl
      · rcases List.mem_append.1 h with h | h
        · exact hd x hin h
        · exact (List.nodup_append.1 b5).2.2 x hx x (by rw [c3]; simp [h]) rfl
  have cls : ∀ (z : Nat) (B : Box) (k : Nat), look z [(i3, Box.res (nestR Q (l1 ++ l :: l2))), (j, .dead)] = some B → B.has w (ρ z) k → z = i3 ∧ k ∈ blkL (ρ i3) ++ (fa ++ (blkL (ρ j) ++ fb)) := by
    intro z B k hz hB
    rcases look_of2 hz with ⟨rfl, rfl⟩ | ⟨rfl, rfl⟩
    · obtain ⟨f', hf', hk'⟩ := hB
      rw [(nestR Q _).det hf' hnew] at hk'
      exact ⟨rfl, hk'⟩
    · exact hB.elim
  refine (mem_regroup hm _ ρ (fun _ _ => rfl) (fun i b hi => ?_) (fun i b k hi hh => ?_) (fun i j b b' k hi hj hh hh' => (cls i b k hi hh).1.trans (cls j b' k hj hh').1.symm)).1
  · rcases look_of2 hi with ⟨rfl, rfl⟩ | ⟨rfl, rfl⟩
    · exact ⟨⟨_, hnew⟩, trivial⟩
    · exact ⟨trivial, trivial⟩
  · rcases List.mem_append.1 (cls i b k hi hh).2 with h | h
    · exact ⟨i3, _, hl, look_a, hx1 k (by rw [b4]; exact List.mem_append_left _ h)⟩
    · rcases List.mem_append.1 h with h | h
      · exact ⟨i3, _, hl, look_a, hx1 k (in0 k (by rw [c3]; simp [h]))⟩
      · rcases List.mem_append.1 h with h | h
        · exact ⟨j, _, hj, look_b, hx2 k h⟩
        · exact ⟨i3, _, hl, look_a, hx1 k (in0 k (by rw [c3]; simp [h]))⟩
theorem ent_nback (i3 j : Nat) {l : Ir} {l1 l2 : List Ir} (hl : look i3 β = some (.rel j (nestHole Q l1 l2))) (hj : look j β = some (.row Q.E Q.sz (rowE l))) (hat : At C ⟨σ, β⟩ a w) :
    At C ⟨σ, [(i3, .res (nestR Q (l1 ++ l :: l2))), (j, .dead)] ++ β⟩ a w := at_mem (fun _ _ hm => mem_nback i3 j hl hj hm) hat
/-- The slices as data. -/
theorem mem_nopen (i3 i4 : Nat) {ls : List Ir} (hl : look i3 β = some (.res (nestR Q ls))) (h4 : look i4 β = none) (hm : Mem C β ρ I w) :
    ∃ ps : {ps : List Value // ps.length = ls.length}, Mem C ([(i3, .row Q.T 1 (ps.1.map ptrE)), (i4, .res (rowsR Q ls ps.1))] ++ β) ρ I w := by
  obtain ⟨fs, xs, f0, b1, b2, b3, b4⟩ := hm.box i3 _ hl
  have hlen := rows_len b2
  have hk : NestRep Q w ls (ρ i3) fs := ⟨xs, f0, b1, b2, b3, b4⟩
  have hhas : ∀ k ∈ fs, (Box.res (nestR Q ls)).has w (ρ i3) k := fun k hk' => ⟨fs, hk, hk'⟩
  refine ⟨⟨xs, hlen⟩, ?_⟩
  have cls : ∀ (z : Nat) (B : Box) (k : Nat), look z [(i3, Box.row Q.T 1 (xs.map ptrE)), (i4, .res (rowsR Q ls xs))] = some B → B.has w (ρ z) k → (z = i3 ∧ k ∈ blkL (ρ i3)) ∨ (z = i4 ∧ k ∈ f0) := by
    intro z B k hz hB
    rcases look_of2 hz with ⟨rfl, rfl⟩ | ⟨rfl, rfl⟩
    · exact .inl ⟨rfl, blkL_mem hB⟩
    · obtain ⟨f', hf', hk'⟩ := hB
      rw [RowsRep.det _ hf' b2] at hk'
      exact .inr ⟨rfl, hk'⟩
  refine (mem_regroup hm _ ρ (fun _ _ => rfl) (fun i b hi => ?_) (fun i b k hi hh => ⟨i3, _, hl, look_a, hhas k ?_⟩) (fun i j b b' k hi hj hh hh' => ?_)).1
  · rcases look_of2 hi with ⟨rfl, rfl⟩ | ⟨rfl, rfl⟩
    · exact ⟨⟨xs, by rw [List.length_map, hlen]; exact b1, repC_ptrs I w xs (rows_one b2)⟩, trivial⟩
    · exact ⟨⟨f0, b2⟩, trivial⟩
  · rw [b3]
    rcases cls i b k hi hh with ⟨_, h⟩ | ⟨_, h⟩ <;> simp [h]
  · rw [b3] at b4
    rcases cls i b k hi hh with ⟨rfl, h⟩ | ⟨rfl, h⟩ <;> rcases cls j b' k hj hh' with ⟨rfl, h'⟩ | ⟨rfl, h'⟩
    · rfl
    · exact absurd rfl ((List.nodup_append.1 b4).2.2 k h k h')
    · exact absurd rfl ((List.nodup_append.1 b4).2.2 k h' k h)
    · rfl
theorem mem_nshut (i3 i4 : Nat) {ls : List Ir} {ps : List Value} (hl : look i3 β = some (.row Q.T 1 (ps.map ptrE))) (h4 : look i4 β = some (.res (rowsR Q ls ps))) (hm : Mem C β ρ I w) :
    Mem C ([(i3, .res (nestR Q ls)), (i4, .dead)] ++ β) ρ I w := by
  obtain ⟨xs, b1, b2⟩ := hm.box i3 _ hl
  obtain ⟨f0, b3⟩ := hm.box i4 _ h4
  have b3 : RowsRep Q w ls ps f0 := b3
  rw [ptrs_repC b2, List.length_map, rows_len b3] at b1
  have hne : i3 ≠ i4 := fun e => by rw [e, h4] at hl; cases hl
  have hx1 : ∀ k ∈ blkL (ρ i3), (Box.row Q.T 1 (ps.map ptrE)).has w (ρ i3) k := fun k hk => by unfold blkL at hk; exact (by simpa using hk : blk (ρ i3) = some k)
  have hx2 : ∀ k ∈ f0, (Box.res (rowsR Q ls ps)).has w (ρ i4) k := fun k hk => ⟨f0, b3, hk⟩
  have hnew : NestRep Q w ls (ρ i3) (blkL (ρ i3) ++ f0) := ⟨ps, f0, b1, b3, rfl, List.nodup_append.2 ⟨blkL_nodup _, rows_nodup b3, fun x hx y hy e => by subst e; exact hne (hm.inj i3 i4 _ _ x hl h4 (hx1 x hx) (hx2 x hy))⟩⟩
  have cls : ∀ (z : Nat) (B : Box) (k : Nat), look z [(i3, Box.res (nestR Q ls)), (i4, .dead)] = some B → B.has w (ρ z) k → z = i3 ∧ k ∈ blkL (ρ i3) ++ f0 := by
    intro z B k hz hB
    rcases look_of2 hz with ⟨rfl, rfl⟩ | ⟨rfl, rfl⟩
    · obtain ⟨f', hf', hk'⟩ := hB
      rw [(nestR Q ls).det hf' hnew] at hk'
      exact ⟨rfl, hk'⟩
    · exact hB.elim
  refine (mem_regroup hm _ ρ (fun _ _ => rfl) (fun i b hi => ?_) (fun i b k hi hh => ?_) (fun i j b b' k hi hj hh hh' => (cls i b k hi hh).1.trans (cls j b' k hj hh').1.symm)).1
  · rcases look_of2 hi with ⟨rfl, rfl⟩ | ⟨rfl, rfl⟩
    · exact ⟨⟨_, hnew⟩, trivial⟩
    · exact ⟨trivial, trivial⟩
  · rcases List.mem_append.1 (cls i b k hi hh).2 with h | h
    · exact ⟨i3, _, hl, look_a, hx1 k h⟩
    · exact ⟨i4, _, h4, look_b, hx2 k h⟩
/-- Rows, others behind them. -/
theorem mem_njoin (i4 j : Nat) {l1 l2 : List Ir} {p1 p2 : List Value} (h4 : look i4 β = some (.res (rowsR Q l1 p1))) (hj : look j β = some (.res (rowsR Q l2 p2))) (hne : i4 ≠ j) (hm : Mem C β ρ I w) :
    Mem C ([(i4, .res (rowsR Q (l1 ++ l2) (p1 ++ p2))), (j, .dead)] ++ β) ρ I w := by
  obtain ⟨fa, ka⟩ := hm.box i4 _ h4
  obtain ⟨fb, kb⟩ := hm.box j _ hj
  have ka : RowsRep Q w l1 p1 fa := ka
  have kb : RowsRep Q w l2 p2 fb := kb
  have hx1 : ∀ g ∈ fa, (Box.res (rowsR Q l1 p1)).has w (ρ i4) g := fun g hg => ⟨fa, ka, hg⟩
  have hx2 : ∀ g ∈ fb, (Box.res (rowsR Q l2 p2)).has w (ρ j) g := fun g hg => ⟨fb, kb, hg⟩
  have knew := app_rows ka kb fun g hg hb => hne (hm.inj i4 j _ _ g h4 hj (hx1 g hg) (hx2 g hb))
  have cls : ∀ i b k, look i [(i4, Box.res (rowsR Q (l1 ++ l2) (p1 ++ p2))), (j, .dead)] = some b → b.has w (ρ i) k → i = i4 ∧ k ∈ fa ++ fb := fun i b k hi hh => by
    rcases look_of2 hi with ⟨rfl, rfl⟩ | ⟨rfl, rfl⟩
    · obtain ⟨f', hf', hk⟩ := hh
      rw [RowsRep.det _ hf' knew] at hk
      exact ⟨rfl, hk⟩
    · exact hh.elim
  refine (mem_regroup hm _ ρ (fun _ _ => rfl) (fun i b hi => ?_) (fun i b k hi hh => ?_) (fun i i' b b' k hi hi' hh hh' => (cls i b k hi hh).1.trans (cls i' b' k hi' hh').1.symm)).1
  · rcases look_of2 hi with ⟨rfl, rfl⟩ | ⟨rfl, rfl⟩
    · exact ⟨⟨_, knew⟩, trivial⟩
    · exact ⟨trivial, trivial⟩
  · rcases List.mem_append.1 (cls i b k hi hh).2 with h | h
    · exact ⟨i4, _, h4, look_a, hx1 k h⟩
    · exact ⟨j, _, hj, look_b, hx2 k h⟩
/-- A row of one's own as rows, one of them. -/
theorem mem_none (X : Nat) {l : Ir} (hX : look X β = some (.row Q.E Q.sz (rowE l))) (hm : Mem C β ρ I w) : Mem C ([(X, .res (rowsR Q [l] [ρ X]))] ++ β) ρ I w := by
  have ht := row_inner (hm.box X _ hX)
  have hx2 : ∀ g ∈ blkL (ρ X), (Box.row Q.E Q.sz (rowE l)).has w (ρ X) g := fun k hk => by unfold blkL at hk; exact (by simpa using hk : blk (ρ X) = some k)
  have knew := rows_one_of ht
  have cls : ∀ i b k, look i [(X, Box.res (rowsR Q [l] [ρ X]))] = some b → b.has w (ρ i) k → i = X ∧ k ∈ blkL (ρ X) := fun i b k hi hh => by
    obtain ⟨rfl, rfl⟩ := look_one hi
    obtain ⟨f', hf', hk⟩ := hh
    rw [RowsRep.det _ hf' knew] at hk
    exact ⟨rfl, hk⟩
  refine (mem_regroup hm _ ρ (fun _ _ => rfl) (fun i b hi => ?_) (fun i b k hi hh => ⟨X, _, hX, look_a, hx2 k (cls i b k hi hh).2⟩) (fun i i' b b' k hi hi' hh hh' => (cls i b k hi hh).1.trans (cls i' b' k hi' hh').1.symm)).1
  obtain ⟨rfl, rfl⟩ := look_one hi
  exact ⟨⟨_, knew⟩, trivial⟩
end
end Go.Proofs.YtfplkakfakdfhaaDoor

