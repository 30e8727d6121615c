/-
  The disk: New, Write. Condition: a disk that reads well.
-/
import Derived.Test.YtgakkghlphnoaaaBuild
namespace Go.Proofs.Ytgakkghlphnoaaa
set_option linter.unusedSimpArgs false
set_option linter.unusedVariables false
open Go.RowKit

theorem RdD.of_own {w : World} {base : Nat} {d : DiskL} {A A' : Option Addr} {c c' : Nat} (hok : d.ok) (h1 : w.ownsRow base 60 32 (.slice A d.lasts.length c) d.lasts.length (SecC d.lasts))
    (h2 : w.ownsRow base 73 33 (.slice A' d.writes.length c') d.writes.length (PutC d.writes)) (k1 : d.lasts.length ≤ c) (m1 : c ≤ maxLen) (k2 : d.writes.length ≤ c') (m2 : c' ≤ maxLen) : RdD w w.heap.size d A c A' c' :=
  ⟨Reads.of_own h1, Reads.of_own h2, hok, k1, m1, k2, m2⟩
theorem own_ne {w : World} {base base' : Nat} {e e' : TypeId} {size size' n n' : Nat} {v v' : Value} {xs xs' : List Value} (h : w.ownsRow base e size v n xs) (h' : w.ownsRow base' e' size' v' n' xs') (hne : e ≠ e') : v.ownBlock = none ∨ v.ownBlock ≠ v'.ownBlock := by
  rcases h.2 with ⟨rfl, _⟩ | ⟨g, cap, cur, rfl, _, hh, _⟩
  · exact .inl rfl
  · refine .inr fun e0 => ?_
    rcases h'.2 with ⟨rfl, _⟩ | ⟨g', cap', cur', rfl, _, hh', _⟩
    · simp [Value.ownBlock] at e0
    · simp only [Value.ownBlock, Option.some.injEq] at e0
      subst e0
      rw [hh] at hh'
      injection hh' with hh'
      injection hh' with _ ht
      exact hne ht
theorem own_rebase {w : World} {base base' : Nat} {e : TypeId} {size : Nat} {v : Value} {n : Nat} {xs : List Value} (h : w.ownsRow base e size v n xs) (hb : ∀ k, v.ownBlock = some k → base' ≤ k) : w.ownsRow base' e size v n xs := by
  refine ⟨h.1, ?_⟩
  rcases h.2 with h0 | ⟨g, cap, cur, h1, h2, h3⟩
  · exact .inl h0
  · exact .inr ⟨g, cap, cur, h1, hb g (by rw [h1]; rfl), h3⟩
section
variable {P : Program} {ops : Array Oper} {rest : List Oper} {a : Act} {Q : Exit → Act → World → Prop} {w : World}
theorem step_build {o : Oper} (hg : o.guard = none) (t : TypeId) (pl : List (Nat × Operand)) (ho : o.op = .build t pl.toArray) (cells : Array Value)
    (hf : P.built t (pl.map fun p => (p.1, a.eval p.2)) = some cells)
    (h : wpList P ops Q rest (a.put o.dst (.agg cells)) w) : wpList P ops Q (o :: rest) a w := by
  have e : (pl.toArray.map fun (i, x) => (i, a.eval x)).toList = pl.map fun p => (p.1, a.eval p.2) := by simp
  exact wpList_build hg t _ ho (by rw [e, hf]; rfl) (by rw [e, hf]; exact h)
theorem step_buildSlice {o : Oper} (hg : o.guard = none) (t e : TypeId) (len : Nat) (pl : List (Nat × Operand)) (ho : o.op = .buildSlice t len pl.toArray) (dst : Option Tmp) (hdst : o.dst = dst) (hu : P.underlying t = some (.slice e)) (cells : Array Value)
    (hf : P.builtSlice e len (pl.map fun p => (p.1, a.eval p.2)) = some cells)
    (h : wpList P ops Q rest (a.put dst (.slice (some ⟨w.heap.size, 0, none⟩) len len)) (w.alloc (.cells cells e))) : wpList P ops Q (o :: rest) a w := by
  have e : (pl.toArray.map fun (i, x) => (i, a.eval x)).toList = pl.map fun p => (p.1, a.eval p.2) := by simp
  exact Go.Great.wpList_buildSliceTo hg t _ len _ ho w.heap.size rfl dst hdst hu cells (by rw [e, hf]) h
end
theorem PutC_snoc (ws : List PutL) (p : PutL) : PutC (ws ++ [p]) = PutC ws ++ p.cells := by simp [PutC]
/-- A disk of the call's own. -/
structure OwnD (w : World) (base : Nat) (d : DiskL) (A : Option Addr) (c : Nat) (A' : Option Addr) (c' : Nat) : Prop where
  lasts : w.ownsRow base 60 32 (.slice A d.lasts.length c) d.lasts.length (SecC d.lasts)
  writes : w.ownsRow base 73 33 (.slice A' d.writes.length c') d.writes.length (PutC d.writes)
  ok : d.ok
  cap : d.lasts.length ≤ c
  max : c ≤ maxLen
  cap' : d.writes.length ≤ c'
  max' : c' ≤ maxLen
theorem OwnD.rd {w : World} {base : Nat} {d : DiskL} {A A' : Option Addr} {c c' : Nat} (h : OwnD w base d A c A' c') : RdD w w.heap.size d A c A' c' :=
  ⟨Reads.of_own h.lasts, Reads.of_own h.writes, h.ok, h.cap, h.max, h.cap', h.max'⟩
theorem OwnD.call {w w' : World} {base : Nat} {d : DiskL} {A A' : Option Addr} {c c' : Nat} (h : OwnD w base d A c A' c') (hb : Below w.heap.size w w') : OwnD w' base d A c A' c' :=
  ⟨own_call h.lasts hb, own_call h.writes hb, h.ok, h.cap, h.max, h.cap', h.max'⟩
theorem OwnD.mono {w : World} {base base' : Nat} {d : DiskL} {A A' : Option Addr} {c c' : Nat} (h : OwnD w base d A c A' c') (hb : base' ≤ base) : OwnD w base' d A c A' c' :=
  ⟨own_mono h.lasts hb, own_mono h.writes hb, h.ok, h.cap, h.max, h.cap', h.max'⟩
theorem OwnD.grown {w w' : World} {base g : Nat} {d : DiskL} {A A' : Option Addr} {c c' : Nat} (h : OwnD w base d A c A' c') (hg : w.grownBy w' (some g)) (hb : g < base) : OwnD w' base d A c A' c' :=
  ⟨stableG_own _ _ _ _ hb _ _ _ h.lasts hg, stableG_own _ _ _ _ hb _ _ _ h.writes hg, h.ok, h.cap, h.max, h.cap', h.max'⟩
/-- What a call that makes a disk answers. -/
def GivesDisk (w : World) (d : DiskL) (e : Ending) (w' : World) : Prop :=
  ∃ A c A' c', e = .returned (.tuple #[.agg #[.slice A d.lasts.length c, .slice A' d.writes.length c'], .int .i64 0]) ∧ OwnD w' w.heap.size d A c A' c' ∧ Below w.heap.size w w'

set_option maxHeartbeats 4000000 in
theorem write_any (d : DiskL) (A : Option Addr) (c : Nat) (A' : Option Addr) (c' B n m i : Nat) (b : List UInt8) (w : World) (h : RdD w B d A c A' c') (hB : B ≤ w.heap.size) (hn : d.lasts.length = n) (hm : d.writes.length = m) (hi : i < n) (hb : b.length = 32) (hfew : m < 60) :
    Calls Try.prog 30 #[.agg #[.slice A n c, .slice A' m c'], .int .i64 (i : Int), .agg (secV b)] w (GivesDisk w ⟨d.lasts, d.writes ++ [⟨i, b⟩]⟩) := by
  have h1 := h.ok.pos
  have h2 := h.ok.most
  rw [hn] at h1 h2
  have HN := Lib.hid hn
  have HM := Lib.hid hm
  have HBB := Lib.hid hb
  clear hn hm hb
  go_enter Try.func30, Try.ntmps30
  go_wp2_with fail
  refine (check_any d A c A' c' B n m _ (h.below ((((Below.refl w.heap.size w).alloc (Nat.le_refl _) _).alloc (by simp) _).alloc (by simp; omega) _ |>.mono hB)) (by simp; omega) HN.out HM.out).mono ?_; rintro e w1 ⟨rfl, b1⟩
  have hbel1 : Below w.heap.size w w1 := ((((Below.refl w.heap.size w).alloc (Nat.le_refl _) _).alloc (by simp) _).alloc (by simp; omega) _).trans (b1.mono (by simp; omega))
  have hsz1 : w.heap.size + 3 ≤ w1.heap.size := by have := b1.size; simpa using this
  obtain ⟨hd1⟩ : Nonempty (Blk w1 w.heap.size 57 #[.slice A n c, .slice A' m c']) := ⟨(((Blk.new w _ _).alloc _).alloc _).call b1⟩
  obtain ⟨hb1⟩ : Nonempty (Blk w1 (w.heap.size + 1) 60 (secV b)) := ⟨by simpa using (((Blk.new (w.alloc _) _ _).alloc _).call b1)⟩
  obtain ⟨hr1⟩ : Nonempty (Blk w1 (w.heap.size + 2) 57 #[.slice none 0 0, .slice none 0 0]) := ⟨by simpa using ((Blk.new ((w.alloc _).alloc _) _ _).call b1)⟩
  clear b1
  have hc0 := hd1.cell 0
  have hc1 := hd1.cell 1
  simp only [List.getElem?_toArray, List.getElem?_cons_zero, List.getElem?_cons_succ] at hc0 hc1
  have hlt0 : decide ((i : Int) < 0) = false := by simp
  go_wp2_with fail
  refine (fresh_any d A c A' c' B n m w1 (h.below (hbel1.mono hB)) (by have := hbel1.size; omega) HN.out HM.out).mono ?_; rintro e w2 ⟨v2, rfl, ⟨A6, c6, A10, c10, rfl, o6, o10, q1, q2, q3, q4⟩, b2⟩
  clear hc0 hc1
  have hd2 := hd1.call b2
  have hb2 := hb1.call b2
  have hr2 := hr1.call b2
  have hbel2 := hbel1.trans (b2.mono hbel1.size)
  have hsz2 := b2.size
  clear hd1 hb1 hr1 b2 hbel1
  have hcl : (PutL.cells ⟨i, b⟩).length = 33 := by simp [PutL.cells, HBB.out]
  have hbl : (b.map B8).length = 32 := by simp [HBB.out]
  have HCL := Lib.hid hcl
  have HBL := Lib.hid hbl
  clear hcl hbl
  have l6 := own_lt o6
  have l10 := own_lt o10
  go_wp2_with (first
    | ((with_reducible show wpList _ _ _ (⟨none, .store _ (.tmp 3) _, _, _, _, _⟩ :: _) _ _); (refine step_set (o := ⟨none, _, _, _, _, _⟩) 57 (.tmp 3) (.tmp 31) 2 #[.slice A6 n c6, .slice A10 m c10] _ w.heap.size rfl rfl rfl rfl rfl hd2 (by kernel_rfl) rfl rfl (by simp [Value.oneCell']) ?_; intro w3 hd3 hg3 hsz3; (have hc0 := hd3.cell 0; have hc1 := hd3.cell 1; simp only [List.getElem?_toArray, List.getElem?_cons_zero, List.getElem?_cons_succ] at hc0 hc1; have hb3 := hb2.grown hg3 (by intro e; simp at e); have hr3 := hr2.grown hg3 (by intro e; simp at e); have o6' := stableG_own 60 32 n (SecC d.lasts) (show w.heap.size < w1.heap.size by omega) _ w2 w3 o6 hg3; have o10' := stableG_own 73 33 m (PutC d.writes) (show w.heap.size < w1.heap.size by omega) _ w2 w3 o10 hg3; have hbel3 := hbel2.grown hg3 hbel2.size (fun g hg => by injection hg with hg; omega); clear hb2 hr2 hd2 o6 o10 hbel2 hg3)))
    | ((with_reducible show wpList _ _ _ (⟨some 35, _, _, _, _, _⟩ :: _) _ _); refine step_get (o := ⟨some 35, _, _, _, _, _⟩) 60 (.tmp 5) 32 _ (secV b) (w.heap.size + 1) rfl rfl rfl hb3 Try.underlying60 rfl size_sec (secV_size HBB.out) ?_)
    | ((with_reducible show wpList _ _ _ (⟨some 36, _, _, _, _, _⟩ :: _) _ _); go_loud (refine step_build (o := ⟨some 36, _, _, _, _, _⟩) rfl 73 _ rfl (PutL.cells ⟨i, b⟩).toArray (built_put i (b.map B8) HBL.out) ?_))
    | ((with_reducible show wpList _ _ _ (⟨some 37, _, _, _, _, _⟩ :: _) _ _); go_loud (refine step_buildSlice (o := ⟨some 37, _, _, _, _, _⟩) rfl 55 73 1 _ rfl (some 37) rfl Try.underlying55 (PutL.cells ⟨i, b⟩).toArray (built_puts _ HCL.out) ?_))
    | (at_builtin; go_loud (refine app_own 55 73 _ 33 40 (.tmp 33) (.tmp 37) rfl rfl Try.underlying55 info_puts (by decide) (by decide) (w0 := w) (v := .slice A10 m c10) rfl (n := m) (xs := PutC d.writes) ((own_mono o10' (by omega)).alloc _) (hbel3.alloc hbel3.size _) rfl (m := 1) (reads_cells _ _ _ _ _ _ rfl (by simp [HCL.out])) (by intro u hu; exact PutL.one _ u (by simpa using hu)) (by omega) (by simp [maxLen]; omega) ?_; intro A11 c11 w5 o11 hk5 hm5 hbel5 hg5 ho5; have hne : ∀ k, k < w1.heap.size → some k ≠ (Value.slice A10 m c10).ownBlock := (fun k hk e => by have := l10 k e.symm; omega); have hd5 := (hd3.alloc _).grown hg5 (hne _ (by omega)); have hr5 := (hr3.alloc _).grown hg5 (hne _ (by omega)); have o6'' := (o6'.alloc _).kept hg5 (own_ne o6' o10' (by decide)); have hq1 := hd5.cell 1; have hf1 := hd5.frozen 1; simp only [List.getElem?_toArray, List.getElem?_cons_zero, List.getElem?_cons_succ] at hq1; have hd6 : Blk (w5.setCell ⟨w.heap.size, 1, none⟩ (.slice A11 (m + 1) c11)) w.heap.size 57 #[.slice A6 n c6, .slice A11 (m + 1) c11] := (by have := hd5.set_ 1 (.slice A11 (m + 1) c11); simpa using this); have hr6 := hr5.far (p := ⟨w.heap.size, 1, none⟩) (by simp) (.slice A11 (m + 1) c11); clear hd3 hr3 o6' o10' hg5 hc0 hc1 hd5 hr5 hb3))
    | ((with_reducible show wpList _ _ _ (⟨some 40, _, _, _, _, _⟩ :: _) _ _); go_loud (refine step_get (o := ⟨some 40, _, _, _, _, _⟩) 57 (.tmp 3) 2 _ #[.slice A6 n c6, .slice A11 (m + 1) c11] w.heap.size rfl rfl rfl hd6 Try.underlying57 rfl (by kernel_rfl) rfl ?_))
    | ((with_reducible show wpList _ _ _ (⟨none, .store _ (.tmp 6) _, _, _, _, _⟩ :: _) _ _); go_loud (refine step_set (o := ⟨none, _, _, _, _, _⟩) 57 (.tmp 6) (.tmp 40) 2 #[.slice A6 n c6, .slice A11 (m + 1) c11] _ (w.heap.size + 2) rfl rfl rfl rfl rfl hr6 (by kernel_rfl) rfl rfl (by simp [Value.oneCell']) ?_; intro w7 hd7 hg7 hsz7)))
  (try simp only [Exit.inBlock, Exit.then])
  refine bodyPost_ret (v := .tuple #[.agg #[.slice A6 n c6, .slice A11 (m + 1) c11], .int .i64 0]) ?_ rfl ?_
  · rw [results_cell_tmp rfl]
    simp [asAddr, Result.andThen, loadVar_blk hd7 Try.underlying57 rfl (by kernel_rfl) rfl]
  · have o11' := own_rebase (base' := w1.heap.size) o11 (fun k hk => by
      rcases ho5 with h | h
      · exact l10 k (by rw [← h]; exact hk)
      · rw [hk] at h
        injection h with h
        rw [h]
        simp
        omega)
    have p6 := stableG_own 60 32 n (SecC d.lasts) (show w.heap.size + 2 < w1.heap.size by omega) _ _ w7 (ownsRow_setCell_below o6'' (a := ⟨w.heap.size, 1, none⟩) (by simp; omega) (.slice A11 (m + 1) c11)) hg7
    have p11 := stableG_own 73 33 (m + 1) (PutC d.writes ++ (PutL.cells ⟨i, b⟩).toArray.toList) (show w.heap.size + 2 < w1.heap.size by omega) _ _ w7 (ownsRow_setCell_below o11' (a := ⟨w.heap.size, 1, none⟩) (by simp; omega) (.slice A11 (m + 1) c11)) hg7
    have hbel7 : Below w.heap.size w w7 := (hbel5.setCell (by simp) _).grown hg7 (by have := hbel5.size; simpa using this) (fun g hg => by injection hg with hg; omega)
    rw [List.toList_toArray, ← PutC_snoc] at p11
    refine ⟨A6, c6, A11, c11, by simp [HN.out, HM.out], ⟨?_, ?_, ?_, ?_, q2, ?_, hm5⟩, hbel7⟩
    · rw [← HN.out] at p6
      exact own_mono p6 (by omega)
    · have e : (d.writes ++ [(⟨i, b⟩ : PutL)]).length = m + 1 := by simp [HM.out]
      rw [← e] at p11
      exact own_mono p11 (by omega)
    · have hok := h.ok
      refine ⟨hok.sec, fun p hp => ?_, hok.pos, hok.most, by simp [HM.out]; omega⟩
      rcases List.mem_append.1 hp with hp | hp
      · exact hok.put p hp
      · simp only [List.mem_singleton] at hp
        subst hp
        exact ⟨HBB.out, by rw [HN.out]; exact hi⟩
    · rw [HN.out]; exact q1
    · simp [HM.out]; exact hk5
end Go.Proofs.Ytgakkghlphnoaaa
