/-
  The disk: New, fresh, Write. Condition: a disk that reads well.
-/
import Derived.Test.YtgakkghlphnoaaaDisk
import Derived.Test.YtgakkghlphnoaaaRegionS
namespace Go.Proofs.Ytgakkghlphnoaaa
set_option linter.unusedSimpArgs false
set_option linter.unusedVariables false
open Go.RowKit

theorem info_secs : (Try.prog.info? 60).map (fun i => (i.zero, i.size, i.bytes)) = some (some (.agg (List.replicate 32 (Value.int .u8 0)).toArray), 32, 32) := by kernel_rfl
theorem info_puts : (Try.prog.info? 73).map (fun i => (i.zero, i.size, i.bytes)) = some (some (.agg (.int .i64 0 :: List.replicate 32 (Value.int .u8 0)).toArray), 33, 40) := by kernel_rfl
theorem SecC_one (ls : List (List UInt8)) : ∀ u ∈ SecC ls, u.oneCell' = true := by
  intro u hu
  simp only [SecC, List.mem_flatMap, List.mem_map] at hu
  obtain ⟨s, _, b, _, rfl⟩ := hu
  rfl
theorem PutC_one (ws : List PutL) : ∀ u ∈ PutC ws, u.oneCell' = true := by
  intro u hu
  obtain ⟨p, _, hp⟩ := List.mem_flatMap.1 hu
  exact p.one u hp
/-- The value is a disk of the call's own. -/
def OwnDisk (base n m : Nat) (xs ys : List Value) (v : Value) (w : World) : Prop :=
  ∃ A c A' c', v = .agg #[.slice A n c, .slice A' m c'] ∧ w.ownsRow base 60 32 (.slice A n c) n xs ∧ w.ownsRow base 73 33 (.slice A' m c') m ys ∧ n ≤ c ∧ c ≤ maxLen ∧ m ≤ c' ∧ c' ≤ maxLen
theorem stable_disk (base n m : Nat) (xs ys : List Value) : Stable (OwnDisk base n m xs ys) := fun v w w' ⟨A, c, A', c', h1, h2, h3, h4⟩ hb => ⟨A, c, A', c', h1, own_call h2 hb, own_call h3 hb, h4⟩
theorem stableG_disk {base g : Nat} (n m : Nat) (xs ys : List Value) (hg : g < base) : StableG g (OwnDisk base n m xs ys) := fun v w w' ⟨A, c, A', c', h1, h2, h3, h4⟩ hb =>
  ⟨A, c, A', c', h1, stableG_own 60 32 n xs hg _ w w' h2 hb, stableG_own 73 33 m ys hg _ w w' h3 hb, h4⟩

section
variable {P : Program}
/-- append onto an empty slice without room: only new memory. -/
theorem run_app_empty (w : World) (base : Nat) (t ty e : TypeId) (z : Value) (size bytes : Nat) (ht : P.underlying t = some (.slice e))
    (hI : (P.info? e).map (fun i => (i.zero, i.size, i.bytes)) = some (some z, size, bytes)) (hzs : z.cells.size = size) (hsz : 0 < size) (g : Nat)
    (hown : w.ownsRow base e size (.slice (some ⟨g, 0, none⟩) 0 0) 0 []) (hbase : base ≤ w.heap.size)
    (B : Nat) (A : Option Addr) (m c : Nat) (news : List Value) (hr : Reads w B size A m news) (h1 : ∀ u ∈ news, u.oneCell' = true)
    (h63 : m ≤ maxLen) (hbytes : m * bytes ≤ 140737488355328) :
    ∃ v' w', (Builtin.append_ #[t, t] ty #[.slice (some ⟨g, 0, none⟩) 0 0, .slice A m c]).run P w = .ok v' w' ∧ w'.ownsRow base e size v' m news ∧ Below w.heap.size w w' := by
  obtain ⟨i, hi, hz, hs, hb⟩ := info_parts hI
  rcases Nat.eq_zero_or_pos m with h0 | h0
  · subst h0
    have hn : news = [] := List.eq_nil_of_length_eq_zero (by simpa using hr.1)
    subst hn
    rcases A with _ | ad
    · exact ⟨_, _, run_append_of_nil w base t ty e i size ht hi _ 0 [] hown c, hown, Below.refl _ _⟩
    · have := run_append_room_cells (P := P) w t ty e i ht hi g 0 0 0 ad 0 c [] (by simp) (by simp) (by simp) (by omega) (by simp) (by simp)
      exact ⟨_, _, this, hown, Below.refl _ _⟩
  · obtain ⟨ad, rfl, hlt, hc⟩ := hr.2 h0
    obtain ⟨v', w', h2, h3, h4⟩ := run_append_arg_grows (P := P) w t ty e i z size bytes ht hi hz hs hb hzs hsz ⟨g, 0, none⟩ 0 0 [] (by simp) (by simp) ad m c news hr.1 hc (by omega) (by omega) (by simpa using hbytes)
    simp only [Nat.zero_add, List.nil_append] at h3
    exact ⟨v', w', h2, own_mono h3 hbase, (Below.refl _ _).grown h4 (Nat.le_refl _) (fun g h => by cases h)⟩
theorem wp_app_empty {o : Oper} {a : Act} {K : Act → World → Prop} {Q : Exit → Act → World → Prop} (w : World) (base : Nat) (t e : TypeId) (z : Value) (size bytes : Nat) (s x : Operand)
    (ho : o.op = .call { callee := .builtin .append, args := #[s, x], argTypes := #[t, t] }) (ht : P.underlying t = some (.slice e))
    (hI : (P.info? e).map (fun i => (i.zero, i.size, i.bytes)) = some (some z, size, bytes)) (hzs : z.cells.size = size) (hsz : 0 < size) (g : Nat) (hs : a.eval s = .slice (some ⟨g, 0, none⟩) 0 0)
    (hown : w.ownsRow base e size (.slice (some ⟨g, 0, none⟩) 0 0) 0 []) (hbase : base ≤ w.heap.size)
    (B : Nat) (A : Option Addr) (m c : Nat) (news : List Value) (hx : a.eval x = .slice A m c) (hr : Reads w B size A m news) (h1 : ∀ u ∈ news, u.oneCell' = true)
    (h63 : m ≤ maxLen) (hbytes : m * bytes ≤ 140737488355328)
    (h : ∀ v' w', w'.ownsRow base e size v' m news → Below w.heap.size w w' → K (a.put o.dst v') w') : o.wp P a w K Q := by
  obtain ⟨v', w', hrun, h2, h3⟩ := run_app_empty (P := P) w base t o.type e z size bytes ht hI hzs hsz g hown hbase B A m c news hr h1 h63 hbytes
  unfold Oper.wp execOp
  simp only [ho, resolve, invoke, builtin, Sem.run_bind, Sem.run_pure, Result.andThen_ok, List.map_toArray, List.map_cons, List.map_nil, hs, hx, hrun]
  exact h v' w' h2 h3
end
/-- An empty slice without room of the call's own. -/
def OwnEmpty (base : Nat) (e : TypeId) (size : Nat) : Value → World → Prop := fun v w => ∃ g, v = .slice (some ⟨g, 0, none⟩) 0 0 ∧ w.ownsRow base e size v 0 []
theorem stable_empty (base : Nat) (e : TypeId) (size : Nat) : Stable (OwnEmpty base e size) := fun _ _ _ ⟨g, h1, h2⟩ hb => ⟨g, h1, own_call h2 hb⟩
theorem stableG_empty {base g : Nat} (e : TypeId) (size : Nat) (hg : g < base) : StableG g (OwnEmpty base e size) := fun v w w' ⟨g', h1, h2⟩ hb => ⟨g', h1, stableG_own e size 0 [] hg v w w' h2 hb⟩
theorem stk_below {k g j : Nat} {w w' : World} (hj : j ≠ k) (hb : Below w.heap.size w w') : StK k g j w w' := by unfold StK; rw [if_neg hj]; exact hb
theorem stk_grown {k g : Nat} {w w' : World} (hb : w.grownBy w' (some g)) : StK k g k w w' := by unfold StK; rw [if_pos rfl]; exact hb

/-- What holds of the world while 'fresh' makes its disk. -/
structure FreshI (w : World) (x y : Value) (W : World) : Prop where
  below : Below w.heap.size w W
  size : w.heap.size + 2 ≤ W.heap.size
  box : Blk W w.heap.size 57 #[x, y]
  res : ∃ old : Array Value, old.size = 2 ∧ Blk W (w.heap.size + 1) 57 old
theorem FreshI.step {w : World} {x y : Value} {W W' : World} (h : FreshI w x y W) (hb : Below W.heap.size W W') : FreshI w x y W' := by
  obtain ⟨h1, h2, h3, old, h4, h5⟩ := h
  exact ⟨h1.trans (hb.mono h1.size), Nat.le_trans h2 hb.size, h3.call hb, old, h4, h5.call hb⟩
def Stored (g base n m : Nat) (xs ys : List Value) : Value → World → Prop := fun _ W => ∃ v cs, v = .agg cs ∧ Blk W g 57 cs ∧ OwnDisk base n m xs ys v W
theorem stable_stored (g base n m : Nat) (xs ys : List Value) : Stable (Stored g base n m xs ys) := fun v w w' ⟨u, cs, h1, h2, h3⟩ hb => ⟨u, cs, h1, h2.call hb, stable_disk base n m xs ys u w w' h3 hb⟩

set_option maxHeartbeats 2000000 in
theorem fresh_any (d : DiskL) (A : Option Addr) (c : Nat) (A' : Option Addr) (c' B n m : Nat) (w : World) (h : RdD w B d A c A' c') (hB : B ≤ w.heap.size) (hn : d.lasts.length = n) (hm : d.writes.length = m) :
    Calls Try.prog 40 #[.agg #[.slice A n c, .slice A' m c']] w fun e w' => ∃ v, e = .returned v ∧ OwnDisk w.heap.size n m (SecC d.lasts) (PutC d.writes) v w' ∧ Below w.heap.size w w' := by
  have h1 := h.ok.most
  have h3 := h.ok.few
  rw [hn] at h1
  rw [hm] at h3
  have rl := h.lasts
  have rw_ := h.writes
  rw [hn] at rl
  rw [hm] at rw_
  clear h hn hm
  go_enter Try.func40, Try.ntmps40
  go_wp2_with fail
  refine region_tabS 9 (w.heap.size + 1) (by kernel_rfl) (FreshI w (.slice A n c) (.slice A' m c')) [OwnEmpty (w.heap.size + 2) 60 32, Is (.pointer (some ⟨w.heap.size, 0, none⟩)), Is (.slice A n c), Own (w.heap.size + 2) 60 32 n (SecC d.lasts), OwnEmpty (w.heap.size + 2) 73 33, Is (.pointer (some ⟨w.heap.size, 1, none⟩)), Is (.slice A' m c'), Own (w.heap.size + 2) 73 33 m (PutC d.writes), OwnDisk (w.heap.size + 2) n m (SecC d.lasts) (PutC d.writes), Stored (w.heap.size + 1) (w.heap.size + 2) n m (SecC d.lasts) (PutC d.writes)] (by kernel_rfl) (by kernel_rfl) (by kernel_rfl) ?hI ?hst ?hstG ?steps ?hend
  case hI => exact ⟨((((Below.refl _ _).alloc (Nat.le_refl _) _).alloc (by simp) _).drew), by simp, ((Blk.new w _ _).alloc _), ⟨#[.slice none 0 0, .slice none 0 0], rfl, Blk.drew (by simpa using (Blk.new (w.alloc (.cells #[.slice A n c, .slice A' m c'] 57)) 57 #[.slice none 0 0, .slice none 0 0]))⟩⟩
  case hst =>
    repeat (first | exact List.forall_mem_nil _ | refine List.forall_mem_cons.2 ⟨by first | exact stable_is _ | exact stable_empty _ _ _ | exact stable_own _ _ _ _ _ | exact stable_disk _ _ _ _ _ | exact stable_stored _ _ _ _ _ _, ?_⟩)
  case hstG =>
    refine stableG_tab (fun i hi hne => ?_)
    rcases i with _ | _ | _ | _ | _ | _ | _ | _ | _ | _ | i
    all_goals first | exact stableG_empty _ _ (by omega) | exact stableG_is _ _ | exact stableG_own _ _ _ _ (by omega) | exact stableG_disk _ _ _ _ (by omega) | exact absurd rfl hne | (simp at hi; omega)
  case steps =>
    refine .cons (fun a W hI hag hd K hK => ?_) ?_
    · clear hag hd
      go_simp
      exact hK _ _ (hI.step ((Below.refl _ _).alloc (Nat.le_refl _) _)) (stk_below (by decide) ((Below.refl _ _).alloc (Nat.le_refl _) _)) ⟨_, rfl, own_none _ _ _ _ _ hI.size rfl⟩
    refine .cons (fun a W hI hag hd K hK => ?_) ?_
    · have d1 := hag.eval 1 (by kernel_rfl)
      clear hag hd
      go_simp
      exact hK _ _ hI (stk_below (by decide) (Below.refl _ _)) rfl
    refine .cons (fun a W hI hag hd K hK => ?_) ?_
    · have d4 : a.tmps.getD 4 undef = _ := hd ⟨1, .data⟩ (by simp) rfl
      have hc := hI.box.cell 0
      simp only [List.getElem?_toArray, List.getElem?_cons_zero] at hc
      clear hag hd
      go_simp
      exact hK _ _ hI (stk_below (by decide) (Below.refl _ _)) rfl
    refine .cons (fun a W hI hag hd K hK => ?_) ?_
    · obtain ⟨g, e3, h3⟩ : OwnEmpty (w.heap.size + 2) 60 32 (a.tmps.getD 3 undef) W := hd ⟨0, .data⟩ (by simp) rfl
      have d5 : a.tmps.getD 5 undef = _ := hd ⟨2, .data⟩ (by simp) rfl
      clear hag hd
      refine wp_app_empty W (w.heap.size + 2) 54 60 _ 32 32 (.tmp 3) (.tmp 5) rfl Try.underlying54 info_secs (by decide) (by decide) g e3 (e3 ▸ h3) hI.size B A n c (SecC d.lasts) d5 (rl.below (hI.below.mono hB)) (SecC_one _) (by simp [maxLen]; omega) (by omega) ?_; intro v' w' h1 h2
      exact hK _ _ (hI.step h2) (stk_below (by decide) h2) h1
    refine .cons (fun a W hI hag hd K hK => ?_) ?_
    · clear hag hd
      go_simp
      exact hK _ _ (hI.step ((Below.refl _ _).alloc (Nat.le_refl _) _)) (stk_below (by decide) ((Below.refl _ _).alloc (Nat.le_refl _) _)) ⟨_, rfl, own_none _ _ _ _ _ hI.size rfl⟩
    refine .cons (fun a W hI hag hd K hK => ?_) ?_
    · have d1 := hag.eval 1 (by kernel_rfl)
      clear hag hd
      go_simp
      exact hK _ _ hI (stk_below (by decide) (Below.refl _ _)) rfl
    refine .cons (fun a W hI hag hd K hK => ?_) ?_
    · have d8 : a.tmps.getD 8 undef = _ := hd ⟨5, .data⟩ (by simp) rfl
      have hc := hI.box.cell 1
      simp only [List.getElem?_toArray, List.getElem?_cons_zero, List.getElem?_cons_succ] at hc
      clear hag hd
      go_simp
      exact hK _ _ hI (stk_below (by decide) (Below.refl _ _)) rfl
    refine .cons (fun a W hI hag hd K hK => ?_) ?_
    · obtain ⟨g, e7, h7⟩ : OwnEmpty (w.heap.size + 2) 73 33 (a.tmps.getD 7 undef) W := hd ⟨4, .data⟩ (by simp) rfl
      have d9 : a.tmps.getD 9 undef = _ := hd ⟨6, .data⟩ (by simp) rfl
      clear hag hd
      refine wp_app_empty W (w.heap.size + 2) 55 73 _ 33 40 (.tmp 7) (.tmp 9) rfl Try.underlying55 info_puts (by decide) (by decide) g e7 (e7 ▸ h7) hI.size B A' m c' (PutC d.writes) d9 (rw_.below (hI.below.mono hB)) (PutC_one _) (by simp [maxLen]; omega) (by omega) ?_; intro v' w' h1 h2
      exact hK _ _ (hI.step h2) (stk_below (by decide) h2) h1
    refine .cons (fun a W hI hag hd K hK => ?_) ?_
    · have h6 : Own (w.heap.size + 2) 60 32 n (SecC d.lasts) (a.tmps.getD 6 undef) W := hd ⟨3, .data⟩ (by simp) rfl
      have h10 : Own (w.heap.size + 2) 73 33 m (PutC d.writes) (a.tmps.getD 10 undef) W := hd ⟨7, .data⟩ (by simp) rfl
      obtain ⟨A6, c6, e6, q1, q2⟩ := own_shape h6
      obtain ⟨A10, c10, e10, q3, q4⟩ := own_shape h10
      rw [e6] at h6
      rw [e10] at h10
      rw [Array.getD_eq_getD_getElem?] at e6 e10
      clear hag hd
      go_simp
      exact hK _ _ hI (stk_below (by decide) (Below.refl _ _)) ⟨A6, c6, A10, c10, rfl, h6, h10, q1, q2, q3, q4⟩
    refine .cons (fun a W hI hag hd K hK => ?_) ?_
    · have d2 := hag.eval 2 (by kernel_rfl)
      obtain ⟨A6, c6, A10, c10, e11, h6, h10, q1, q2, q3, q4⟩ : OwnDisk (w.heap.size + 2) n m (SecC d.lasts) (PutC d.writes) (a.tmps.getD 11 undef) W := hd ⟨8, .data⟩ (by simp) rfl
      clear hag hd
      have hI2 := hI
      obtain ⟨hbel, hsz, hbox, old, ho, hres⟩ := hI
      refine wp_store_row 57 (.tmp 2) (.tmp 11) rfl (w.heap.size + 1) #[.slice A6 n c6, .slice A10 m c10] d2 e11 57 old hres (by kernel_rfl) ho (by simp [Value.oneCell']) ?_
      obtain ⟨f1, f2, f3⟩ := set_row_facts hres #[.slice A6 n c6, .slice A10 m c10]
      refine hK _ _ ⟨hbel.grown f2 hbel.size (fun g hg => by injection hg with hg; omega), by rw [f3]; exact hsz, hbox.grown f2 (by intro e; injection e with e; omega), _, rfl, f1⟩ (stk_grown f2) ?_
      exact ⟨_, _, rfl, f1, stableG_disk n m _ _ (by omega) _ W _ ⟨A6, c6, A10, c10, rfl, h6, h10, q1, q2, q3, q4⟩ f2⟩
    exact .nil
  case hend =>
    intro a W hI hag hV
    obtain ⟨v, cs, rfl, hblk, A6, c6, A10, c10, ev, h6, h10, qq⟩ : Stored (w.heap.size + 1) (w.heap.size + 2) n m (SecC d.lasts) (PutC d.writes) undef W := hV 9 (by simp)
    injection ev with ev
    subst ev
    have d2 := hag.eval 2 (by kernel_rfl)
    have hdf : a.defers = [] := hag.defers
    clear hV hag
    go_wp2_with fail
    refine bodyPost_ret (results_cell_row rfl _ W (w.heap.size + 1) _ _ _ _ d2 hblk Try.underlying57 rfl (by kernel_rfl)) hdf ?_
    exact ⟨_, rfl, ⟨A6, c6, A10, c10, rfl, own_mono h6 (by omega), own_mono h10 (by omega), qq⟩, hI.below⟩
end Go.Proofs.Ytgakkghlphnoaaa
