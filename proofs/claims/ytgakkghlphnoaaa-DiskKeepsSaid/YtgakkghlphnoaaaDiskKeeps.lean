/-
  The walk of DiskKeeps: it returns true. No condition.
-/
import Derived.Test.YtgakkghlphnoaaaDiskLast
import Derived.Test.YtgakkghlphnoaaaDiskCrash
namespace Go.Proofs.Ytgakkghlphnoaaa
set_option linter.unusedSimpArgs false
set_option linter.unusedVariables false
open Go.RowKit

theorem fall_true (ls : List (List UInt8)) (ws : List PutL) (i : Nat) (hi : i < ls.length) : ∀ k, k ≤ ws.length → (fallL (fun _ => true) ls ws k)[i]? = some (readL (ws.take k) i ls[i])
  | 0, _ => by simp [fallL, readL]
  | k + 1, hk => by
    have ih := fall_true ls ws i hi k (by omega)
    have hkl : k < ws.length := by omega
    rw [fallL, if_pos rfl, List.getElem?_eq_getElem hkl, readL_next _ _ _ _ hkl]
    simp only []
    by_cases h : ws[k].at_ = i
    · rw [if_pos h, h, List.getElem?_set_self (by rw [fallL_len]; exact hi)]
    · rw [if_neg h, List.getElem?_set_ne h, ih]
/-- What the law's loop reckons. -/
def thereB (x li : List UInt8) (i : Nat) (l : List PutL) : Bool := (x == li) || l.any (fun p => p.at_ == i && p.data == x)
theorem thereB_next (x li : List UInt8) (i : Nat) (ws : List PutL) (k : Nat) (hk : k < ws.length) : thereB x li i (ws.take (k + 1)) = (thereB x li i (ws.take k) || (ws[k].at_ == i && ws[k].data == x)) := by
  unfold thereB
  rw [List.take_add_one, List.getElem?_eq_getElem hk, Option.toList_some, List.any_append]
  simp [Bool.or_assoc]
theorem fall_some (f : Nat → Bool) (ls : List (List UInt8)) (ws : List PutL) (i : Nat) (hi : i < ls.length) : ∀ k, k ≤ ws.length → ∃ s, (fallL f ls ws k)[i]? = some s ∧ thereB s ls[i] i (ws.take k) = true
  | 0, _ => ⟨ls[i], by simp [fallL, hi], by simp [thereB]⟩
  | k + 1, hk => by
    obtain ⟨s, h1, h2⟩ := fall_some f ls ws i hi k (by omega)
    have hkl : k < ws.length := by omega
    cases hf : f k with
    | false =>
      refine ⟨s, ?_, ?_⟩
      · rw [fallL, hf]; exact h1
      · rw [thereB_next _ _ _ _ _ hkl, h2]; rfl
    | true =>
      by_cases h : ws[k].at_ = i
      · refine ⟨ws[k].data, ?_, ?_⟩
        · rw [fallL, if_pos hf, List.getElem?_eq_getElem hkl]
          simp only []
          rw [h, List.getElem?_set_self (by rw [fallL_len]; exact hi)]
        · rw [thereB_next _ _ _ _ _ hkl]
          simp [h]
      · refine ⟨s, ?_, ?_⟩
        · rw [fallL, if_pos hf, List.getElem?_eq_getElem hkl]
          simp only []
          rw [List.getElem?_set_ne h]
          exact h1
        · rw [thereB_next _ _ _ _ _ hkl, h2]; rfl
section
variable {P : Program} {ops : Array Oper} {rest : List Oper} {a : Act} {Q : Exit → Act → World → Prop} {w : World}
theorem step_mid_if {op : Oper} (hw : Region.wanted op (yielded ops a.tmps) = true) (ty : TypeId) (x : Operand) (ho : op.op = .load ty x)
    (b o : Nat) (hx : a.eval x = .pointer (some ⟨b, o, none⟩)) (cs : List Value) (d : TypeDesc) (hc : w.rangeAt b o cs)
    (hu : P.underlying ty = some d) (hd : d.isRow = true) (hi : (P.info? ty).map (·.size) = some cs.length)
    (h : wpList P ops Q rest (a.put op.dst (.agg cs.toArray)) w) : wpList P ops Q (op :: rest) a w := by
  refine wpList_step fun K hK => ?_
  rw [if_pos hw]
  exact wp_load_mid ty x ho b o hx cs d hc hu hd hi (hK _ _ h)
end
theorem wp_get {P : Program} {o : Oper} {a : Act} {w : World} {K : Act → World → Prop} {Q : Exit → Act → World → Prop} (T : TypeId) (x : Operand) (n : Nat) (d : TypeDesc) (cells : Array Value) (g : Nat)
    (ho : o.op = .load T x) (hx : a.eval x = .pointer (some ⟨g, 0, none⟩)) (hb : Blk w g T cells)
    (hu : P.underlying T = some d) (hd : d.isRow = true) (hi : (P.info? T).map (·.size) = some n) (hn : cells.size = n)
    (h : K (a.put o.dst (.agg cells)) w) : o.wp P a w K Q := by
  have hr : w.rangeAt g 0 cells.toList := by
    have := World.rangeAt_of_block hb 0 cells.size
    simpa using this
  exact wp_load_mid T x ho g 0 hx cells.toList d hr hu hd (by rw [hi]; simp [hn]) (by simpa using h)
theorem range_below {w w' : World} {B b o : Nat} {cs : List Value} (h : w.rangeAt b o cs) (hb : Below B w w') (hlt : b < B) : w'.rangeAt b o cs := fun j v hv => (hb.cell (p := ⟨b, o + j, none⟩) hlt).trans (h j v hv)

set_option maxHeartbeats 8000000 in
theorem diskKeeps_walk (A0 : Option Addr) (l0 : List Raw) (c0 : Nat) (a1 a2 : Int) (w : World) (r0 : RdR w w.heap.size A0 l0) (k0 : l0.length ≤ c0) (m0 : c0 * 40 ≤ 140737488351232) (hok : ∀ r ∈ l0, r.ok) (_w1 : I64 a1) (_w2 : I64 a2) :
    Calls Try.prog 14 #[.slice A0 l0.length c0, .int .i64 a1, .int .i64 a2] w fun e w' => e = .returned (.bool true) ∧ Below w.heap.size w w' := by
  go_enter Try.func14, Try.ntmps14
  go_wp2_with fail
  refine (written_any A0 l0 c0 w.heap.size 6 w r0 (Nat.le_refl _) k0 hok (by omega) (by omega)).mono ?_; rintro e w1 ⟨d, A1, c1, A2, c2, rfl, hfit, o1, b1⟩
  obtain ⟨i, hi⟩ := Int.eq_ofNat_of_zero_le (emod_in a2 6 (by omega)).1
  have hi6 : i < 6 := by have := (emod_in a2 6 (by omega)).2; omega
  have HI := Lib.hid hi
  clear hi
  have n1 : w.heap.size ≤ w1.heap.size := b1.size
  have hl6 : d.lasts.length = 6 := hfit.len
  have ho1 := o1.rd
  go_wp2_with fail
  obtain ⟨f, hcr⟩ := crash_any d A1 c1 A2 c2 w1.heap.size 6 d.writes.length a1 _ (ho1.below ((Below.refl _ _).alloc (Nat.le_refl _) (.cells #[.slice A1 6 c1, .slice A2 d.writes.length c2] 57))) (by simp) hl6 rfl
  refine hcr.mono ?_; rintro e w2 ⟨B1, e1, B2, e2, rfl, o2, b2⟩
  obtain ⟨x, hx1, hx2⟩ := fall_some f d.lasts d.writes i (by omega) d.writes.length (Nat.le_refl _)
  obtain ⟨C, hC⟩ : ∃ C : DiskL, C = ⟨fallL f d.lasts d.writes d.writes.length, []⟩ := ⟨_, rfl⟩
  rw [← hC] at o2 ⊢
  have hC6 : C.lasts.length = 6 := by rw [hC]; simp [fallL_len, hl6]
  have hC0 : C.writes.length = 0 := by rw [hC]; rfl
  have hCx : ∀ h : i < C.lasts.length, readL C.writes i C.lasts[i] = x := by
    subst hC
    intro h
    have : (fallL f d.lasts d.writes d.writes.length)[i]? = some x := hx1
    rw [List.getElem?_eq_getElem h] at this
    injection this
  have HC6 := Lib.hid hC6
  have HC0 := Lib.hid hC0
  have HCX := Lib.hid hCx
  have hth0 : ∀ h' : i < d.lasts.length, thereB x d.lasts[i] i d.writes = true := fun _ => by rw [List.take_length] at hx2; exact hx2
  have HTH := Lib.hid hth0
  rw [hC6, hC0]
  clear hC hC6 hC0 hCx hx1 hx2 hcr hth0
  have HL6 := Lib.hid hl6
  have n2 : w1.heap.size + 1 ≤ w2.heap.size := by have := b2.size; simpa using this
  have hb2 : Below w1.heap.size w1 w2 := ((Below.refl _ _).alloc (Nat.le_refl _) _).trans (b2.mono (by simp))
  have c7 : Blk w2 w1.heap.size 57 #[.slice A1 6 c1, .slice A2 d.writes.length c2] := (Blk.new w1 _ _).call b2
  clear b2 hl6
  have q0 := (c7.alloc (.cells #[.slice B1 6 e1, .slice B2 0 e2] 57)).cell 0
  have q1 := (c7.alloc (.cells #[.slice B1 6 e1, .slice B2 0 e2] 57)).cell 1
  simp only [List.getElem?_toArray, List.getElem?_cons_zero, List.getElem?_cons_succ] at q0 q1
  go_wp2_with fail
  refine (sync_any d A1 c1 A2 c2 w1.heap.size 6 d.writes.length _ (ho1.below (hb2.alloc hb2.size _)) (by simp; omega) HL6.out rfl).mono ?_; rintro e w3 ⟨D1, f1, D2, f2, rfl, o3, b3⟩
  have hs1 := fall_true d.lasts d.writes i (by rw [HL6.out]; exact hi6) d.writes.length (Nat.le_refl _)
  rw [List.take_length] at hs1
  obtain ⟨S, hS⟩ : ∃ S : DiskL, S = ⟨fallL (fun _ => true) d.lasts d.writes d.writes.length, []⟩ := ⟨_, rfl⟩
  rw [← hS] at o3 ⊢
  have hS6 : S.lasts.length = 6 := by rw [hS]; simp [fallL_len, HL6.out]
  have hS0 : S.writes.length = 0 := by rw [hS]; rfl
  have hSx : ∀ (h : i < S.lasts.length) (h' : i < d.lasts.length), readL S.writes i S.lasts[i] = readL d.writes i d.lasts[i] := by
    subst hS
    intro h h'
    have : (fallL (fun _ => true) d.lasts d.writes d.writes.length)[i]? = some (readL d.writes i d.lasts[i]) := hs1
    rw [List.getElem?_eq_getElem h] at this
    injection this
  have HS6 := Lib.hid hS6
  have HS0 := Lib.hid hS0
  have HSX := Lib.hid hSx
  rw [hS6, hS0]
  clear hS hS6 hS0 hSx hs1 q0 q1
  have n3 : w2.heap.size + 1 ≤ w3.heap.size := by have := b3.size; simpa using this
  have hb3 : Below w2.heap.size w2 w3 := ((Below.refl _ _).alloc (Nat.le_refl _) _).trans (b3.mono (by simp))
  have c9 : Blk w3 w2.heap.size 57 #[.slice B1 6 e1, .slice B2 0 e2] := (Blk.new w2 _ _).call b3
  have c7 := (c7.alloc _).call b3
  clear b3
  have q0 := (c9.alloc (.cells #[.slice D1 6 f1, .slice D2 0 f2] 57)).cell 0
  have q1 := (c9.alloc (.cells #[.slice D1 6 f1, .slice D2 0 f2] 57)).cell 1
  simp only [List.getElem?_toArray, List.getElem?_cons_zero, List.getElem?_cons_succ] at q0 q1
  go_wp2_with fail
  refine (picked_any _ _ _ (by omega) (by omega)).mono ?_; rintro e w' ⟨rfl, rfl⟩
  rw [HI.out]
  go_wp2_with fail
  refine (read_any C B1 e1 B2 e2 w2.heap.size 6 0 i _ (o2.rd.below (hb3.alloc hb3.size _)) (by simp; omega) HC6.out HC0.out (by rw [HC6.out]; exact hi6)).mono ?_; rintro e w4 ⟨rfl, b4⟩
  have hxl : x.length = 32 := by rw [← HCX.out (by rw [HC6.out]; exact hi6)]; exact readL_ok o2.ok i (by rw [HC6.out]; exact hi6)
  rw [HCX.out]
  have HXL := Lib.hid hxl
  clear hxl q0 q1
  have n4 : w3.heap.size + 1 ≤ w4.heap.size := by have := b4.size; simpa using this
  have hb4 : Below w3.heap.size w3 w4 := ((Below.refl _ _).alloc (Nat.le_refl _) _).trans (b4.mono (by simp))
  have c11 : Blk w4 w3.heap.size 57 #[.slice D1 6 f1, .slice D2 0 f2] := (Blk.new w3 _ _).call b4
  have c7 := (c7.alloc _).call b4
  have c9 := (c9.alloc _).call b4
  clear b4
  have q0 := (c7.alloc (.cells (secV x) 60)).cell 0
  have q1 := (c7.alloc (.cells (secV x) 60)).cell 1
  simp only [List.getElem?_toArray, List.getElem?_cons_zero, List.getElem?_cons_succ] at q0 q1
  go_wp2_with ((with_reducible show wpList _ _ _ (⟨some 14, _, _, _, _, _⟩ :: _) _ _); go_loud (refine step_var (o1 := ⟨some 14, _, _, _, _, _⟩) 60 14 (.tmp 45) 32 _ (secV x) rfl rfl rfl rfl rfl rfl info_sec (by decide) (fun _ => rfl) (fun _ => rfl) (secV_size HXL.out) (secV_one x) ?_))
  have hid : i < d.lasts.length := by rw [HL6.out]; exact hi6
  have hb14 : Below w1.heap.size w1 w4 := (hb2.trans (hb3.mono (by omega))).trans (hb4.mono (by omega))
  refine (read_any d A1 c1 A2 c2 w1.heap.size 6 d.writes.length i _ (ho1.below (hb14.alloc (by omega) _)) (by simp; omega) HL6.out rfl hid).mono ?_; rintro e w5 ⟨rfl, b5⟩
  have hyl : (readL d.writes i d.lasts[i]).length = 32 := readL_ok o1.ok i hid
  have hsx : ∀ h : i < S.lasts.length, readL S.writes i S.lasts[i] = readL d.writes i d.lasts[i] := fun h => HSX.out h hid
  have hll : (d.lasts[i]).length = 32 := o1.ok.sec _ (List.getElem_mem _)
  have hth := HTH.out hid
  obtain ⟨rg, off, hA1, hrg, hrange⟩ := ho1.sec hid
  generalize d.lasts[i] = li at *
  generalize readL d.writes i li = y at *
  have HYL := Lib.hid hyl
  have HSX2 := Lib.hid hsx
  have HLL := Lib.hid hll
  have HTH2 := Lib.hid hth
  have HRG := Lib.hid hrange
  have HA1 := Lib.hid hA1
  clear hyl hsx hll hth hrange hA1 HTH HSX hid q0 q1
  have n5 : w4.heap.size + 1 ≤ w5.heap.size := by have := b5.size; simpa using this
  have hb5 : Below w4.heap.size w4 w5 := ((Below.refl _ _).alloc (Nat.le_refl _) _).trans (b5.mono (by simp))
  have c14 : Blk w5 w4.heap.size 60 (secV x) := (Blk.new w4 _ _).call b5
  have c7 := (c7.alloc _).call b5
  have c9 := (c9.alloc _).call b5
  have c11 := (c11.alloc _).call b5
  clear b5
  have q0 := (c11.alloc (.cells (secV y) 60)).cell 0
  have q1 := (c11.alloc (.cells (secV y) 60)).cell 1
  simp only [List.getElem?_toArray, List.getElem?_cons_zero, List.getElem?_cons_succ] at q0 q1
  go_wp2_with ((with_reducible show wpList _ _ _ (⟨some 16, _, _, _, _, _⟩ :: _) _ _); go_loud (refine step_var (o1 := ⟨some 16, _, _, _, _, _⟩) 60 16 (.tmp 51) 32 _ (secV y) rfl rfl rfl rfl rfl rfl info_sec (by decide) (fun _ => rfl) (fun _ => rfl) (secV_size HYL.out) (secV_one y) ?_))
  have hb35 : Below w3.heap.size w3 w5 := hb4.trans (hb5.mono (by omega))
  refine (read_any S D1 f1 D2 f2 w3.heap.size 6 0 i _ (o3.rd.below (hb35.alloc hb35.size _)) (by simp; omega) HS6.out HS0.out (by rw [HS6.out]; exact hi6)).mono ?_; rintro e w6 ⟨rfl, b6⟩
  rw [HSX2.out]
  clear q0 q1
  have n6 : w5.heap.size + 1 ≤ w6.heap.size := by have := b6.size; simpa using this
  have hb6 : Below w5.heap.size w5 w6 := ((Below.refl _ _).alloc (Nat.le_refl _) _).trans (b6.mono (by simp))
  have c16 : Blk w6 w5.heap.size 60 (secV y) := (Blk.new w5 _ _).call b6
  have c7 := (c7.alloc _).call b6
  have c9 := (c9.alloc _).call b6
  have c11 := (c11.alloc _).call b6
  have c14 := (c14.alloc _).call b6
  clear b6
  have d7 := c7.alloc (.cells (secV y) 60)
  have d9 := c9.alloc (.cells (secV y) 60)
  have d11 := c11.alloc (.cells (secV y) 60)
  have d14 := c14.alloc (.cells (secV y) 60)
  have d16 := c16.alloc (.cells (secV y) 60)
  have d18 := Blk.new w6 60 (secV y)
  have q0 := d7.cell 0
  have q1 := d7.cell 1
  have q2 := d9.cell 1
  have q3 := d11.cell 1
  simp only [List.getElem?_toArray, List.getElem?_cons_zero, List.getElem?_cons_succ] at q0 q1 q2 q3
  clear c7 c9 c11 c14 c16
  go_wp2_with ((with_reducible show wpList _ _ _ (⟨some 18, _, _, _, _, _⟩ :: _) _ _); go_loud (refine step_var (o1 := ⟨some 18, _, _, _, _, _⟩) 60 18 (.tmp 57) 32 _ (secV y) rfl rfl rfl rfl rfl rfl info_sec (by decide) (fun _ => rfl) (fun _ => rfl) (secV_size HYL.out) (secV_one y) ?_))
  have hA1 := HA1.out
  subst hA1
  have hbF : Below w1.heap.size w1 (w6.alloc (.cells (secV y) 60)) := (((hb14.trans (hb5.mono (by omega))).trans (hb6.mono (by omega)))).alloc (by omega) _
  have hrF := range_below HRG.out hbF hrg
  have hwF : Below w.heap.size w (w6.alloc (.cells (secV y) 60)) := b1.trans (hbF.mono n1)
  have hszF : w6.heap.size + 1 ≤ (w6.alloc (.cells (secV y) 60)).heap.size := by simp
  have d18' := d18
  generalize w6.alloc (.cells (secV y) 60) = wF at *
  have heq := eq_sec x li HXL.out HLL.out
  refine region_tab (by kernel_rfl) (fun W => W = wF.drew) [Is (.agg (secV x)), Is (.pointer (some ⟨w1.heap.size, 0, none⟩)), Is (.slice (some ⟨rg, off, none⟩) 6 c1), Is (.int .i64 (i : Int)), Is (.pointer (some ⟨rg, off + i * 32, none⟩)), Is (.agg (secV li)), Is (.bool (x == li)), Is (.bool (x == li))] (by kernel_rfl) (by kernel_rfl) rfl (by
    repeat (first | exact List.forall_mem_nil _ | refine List.forall_mem_cons.2 ⟨stable_is _, ?_⟩)) ?_ ?_
  · refine .cons (step_plain rfl fun a W hI hag hd K hK => ?_) ?_
    · have d14' := hag.eval 14 (by kernel_rfl)
      clear hag hd
      subst hI
      exact wp_get 60 (.tmp 14) 32 _ (secV x) w4.heap.size rfl d14' d14.drew Try.underlying60 rfl size_sec (secV_size HXL.out) (hK _ _ rfl (Below.refl _ _) rfl)
    refine .cons (step_plain rfl fun a W hI hag hd K hK => ?_) ?_
    · have d7' := hag.eval 7 (by kernel_rfl)
      clear hag hd
      subst hI
      go_simp
      exact hK _ _ rfl (Below.refl _ _) rfl
    refine .cons (step_plain rfl fun a W hI hag hd K hK => ?_) ?_
    · have d100 : a.tmps.getD 100 undef = _ := hd ⟨1, .data⟩ (by simp) rfl
      clear hag hd
      subst hI
      go_simp
      exact hK _ _ rfl (Below.refl _ _) rfl
    refine .cons (step_plain rfl fun a W hI hag hd K hK => ?_) ?_
    · have d13' := hag.eval 13 (by kernel_rfl)
      clear hag hd
      subst hI
      go_simp
      exact hK _ _ rfl (Below.refl _ _) rfl
    refine .cons (step_plain rfl fun a W hI hag hd K hK => ?_) ?_
    · have d101 : a.tmps.getD 101 undef = _ := hd ⟨2, .data⟩ (by simp) rfl
      have d102 : a.tmps.getD 102 undef = _ := hd ⟨3, .data⟩ (by simp) rfl
      clear hag hd
      subst hI
      go_simp
      rw [if_pos (show (i : Int) < 6 by omega)]
      exact hK _ _ rfl (Below.refl _ _) rfl
    refine .cons (step_plain rfl fun a W hI hag hd K hK => ?_) ?_
    · have d103 : a.tmps.getD 103 undef = _ := hd ⟨4, .data⟩ (by simp) rfl
      clear hag hd
      subst hI
      exact wp_load_mid 60 (.tmp 103) rfl rg (off + i * 32) d103 (li.map B8) _ (by simpa using hrF) Try.underlying60 rfl (by rw [size_sec]; simp [HLL.out]) (hK _ _ rfl (Below.refl _ _) rfl)
    refine .cons (step_plain rfl fun a W hI hag hd K hK => ?_) ?_
    · have d99 : a.tmps.getD 99 undef = _ := hd ⟨0, .data⟩ (by simp) rfl
      have d104 : a.tmps.getD 104 undef = _ := hd ⟨5, .data⟩ (by simp) rfl
      clear hag hd
      subst hI
      go_simp
      exact hK _ _ rfl (Below.refl _ _) rfl
    refine .cons (step_plain rfl fun a W hI hag hd K hK => ?_) ?_
    · have d105 : a.tmps.getD 105 undef = _ := hd ⟨6, .data⟩ (by simp) rfl
      clear hag hd
      subst hI
      go_simp
      exact hK _ _ rfl (Below.refl _ _) rfl
    exact .nil
  · intro a W hI hag hV
    have d20 : a.tmps.getD 20 undef = .bool (x == li) := hV 7 (by simp)
    subst hI
    have hfr := hag.frame [99, 100, 101, 102, 103, 104, 105, 20] (by kernel_rfl)
    clear hV hag
    rw [List.foldl_cons] at hfr
    simp only [List.foldl_cons, List.foldl_nil, d20, List.setIfInBounds_toArray, List.set_cons_succ, List.set_cons_zero] at hfr
    clear d20
    generalize a.tmps.getD 99 undef = x99, a.tmps.getD 100 undef = x100, a.tmps.getD 101 undef = x101, a.tmps.getD 102 undef = x102, a.tmps.getD 103 undef = x103, a.tmps.getD 104 undef = x104, a.tmps.getD 105 undef = x105 at hfr
    subst hfr
    clear heq
    have g14 := d14.drew
    have g16 := d16.drew
    have g18 := d18'.drew
    have hbL := hbF.drew
    have hwL := hwF.drew
    have hszL : w6.heap.size + 1 ≤ wF.drew.heap.size := hszF
    go_wp2_with fail
    go_loopw [20, 109] (fun v20 i109 wr => ∃ k, k ≤ d.writes.length ∧ v20 = .bool (thereB x li i (d.writes.take k)) ∧ i109 = .int .i64 (k : Nat) ∧ Below wF.drew.heap.size wF.drew wr) (fun _ i _ => d.writes.length - (intOf i).toNat)
    case atStart => exact ⟨0, by omega, by simp [thereB], rfl, Below.refl _ _⟩
    case round =>
      obtain ⟨k, hk, rfl, rfl, hbel⟩ := hrel
      have hs9 := hbel.size
      have hk30 : d.writes.length ≤ 30 := hfit.few
      by_cases hlt : k < d.writes.length
      · have hk60 : k < 60 := by omega
        have hnx := thereB_next x li i d.writes k hlt
        have hp := (ho1.below (hbL.trans (hbel.mono (by omega)))).put hlt
        have hat := o1.ok.put d.writes[k] (List.getElem_mem _)
        generalize d.writes[k] = p at *
        obtain ⟨b2, off2, rfl, hb2', hr2⟩ := hp
        obtain ⟨hp1, hp2⟩ := hat
        have hcl : p.cells.length = 33 := by simp [PutL.cells, hp1]
        have hcn : p.cells.toArray.size = 33 := by simp [PutL.cells, hp1]
        have HCN := Lib.hid hcn
        have HCL := Lib.hid hcl
        have HP := Lib.hid hp1
        have HNX := Lib.hid hnx
        have hq0 : p.cells[0]? = some (.int .i64 (p.at_ : Int)) := rfl
        have hrd : (wr.alloc (.cells p.cells.toArray 73)).rangeAt wr.heap.size 1 (p.data.map B8) := by
          have := World.rangeAt_of_block (Blk.new wr 73 p.cells.toArray) 1 32
          have e : (p.cells.toArray.extract 1 (1 + 32)).toList = p.data.map B8 := by
            simp only [PutL.cells, List.extract_toArray]
            simp [hp1]
            exact List.take_of_length_le (by simp [hp1])
          rwa [e] at this
        have g14r := (g14.below hbel (by omega)).alloc (.cells p.cells.toArray 73)
        have heq2 : ∀ W : World, (Op.equalIn 10000 60 (.agg (p.data.map B8).toArray) (.agg (secV x))).run Try.prog W = .ok (p.data == x) W := eq_sec p.data x hp1 HXL.out
        have hk1 : k + 1 ≤ d.writes.length := hlt
        have hmm : d.writes.length - (k + 1) < d.writes.length - k := by omega
        have HK1 := Lib.hid hk1
        have HMM := Lib.hid hmm
        clear hk1 hmm
        clear hcl hcn hp1 hnx
        generalize thereB x li i (d.writes.take k) = q at *
        cases q with
        | true =>
          go_wp2_with (first | ((with_reducible show wpList _ _ _ (⟨some 112, _, _, _, _, _⟩ :: _) _ _); refine wpList_load_mid (op := ⟨some 112, _, _, _, _, _⟩) rfl 73 (.tmp 111) rfl b2 (off2 + k * 33) rfl p.cells _ hr2 Try.underlying73 rfl (by rw [HCL.out]; kernel_rfl) ?_) | ((with_reducible show wpList _ _ _ (⟨some 22, _, _, _, _, _⟩ :: _) _ _); refine step_var (o1 := ⟨some 22, _, _, _, _, _⟩) 73 22 (.tmp 112) 33 _ p.cells.toArray rfl rfl rfl rfl rfl rfl info_put (by decide) (fun _ => rfl) (fun _ => rfl) HCN.out (all_oneCell_toArray p.one) ?_))
          go_roundw
          case rel => exact ⟨k + 1, HK1.out, by rw [HNX.out]; rfl, by go_num, hbel.alloc hbel.size _⟩
          case measure => simpa [intOf] using HMM.out
        | false =>
          by_cases hpi : p.at_ = i
          · have hq1 : ((p.at_ : Int) == (i : Int)) = true := by simp [hpi]
            go_wp2_with (first | ((with_reducible show wpList _ _ _ (⟨some 112, _, _, _, _, _⟩ :: _) _ _); refine wpList_load_mid (op := ⟨some 112, _, _, _, _, _⟩) rfl 73 (.tmp 111) rfl b2 (off2 + k * 33) rfl p.cells _ hr2 Try.underlying73 rfl (by rw [HCL.out]; kernel_rfl) ?_) | ((with_reducible show wpList _ _ _ (⟨some 22, _, _, _, _, _⟩ :: _) _ _); refine step_var (o1 := ⟨some 22, _, _, _, _, _⟩) 73 22 (.tmp 112) 33 _ p.cells.toArray rfl rfl rfl rfl rfl rfl info_put (by decide) (fun _ => rfl) (fun _ => rfl) HCN.out (all_oneCell_toArray p.one) ?_) | ((with_reducible show wpList _ _ _ (⟨some 121, _, _, _, _, _⟩ :: _) _ _); go_loud (refine step_mid_if (op := ⟨some 121, _, _, _, _, _⟩) rfl 60 (.tmp 120) rfl wr.heap.size 1 rfl (p.data.map B8) _ hrd Try.underlying60 rfl (by rw [size_sec]; simp [HP.out]) ?_)) | ((with_reducible show wpList _ _ _ (⟨some 122, _, _, _, _, _⟩ :: _) _ _); go_loud (refine step_get_if (o := ⟨some 122, _, _, _, _, _⟩) 60 (.tmp 14) 32 _ (secV x) w4.heap.size rfl rfl rfl g14r Try.underlying60 rfl size_sec (secV_size HXL.out) ?_)))
            go_roundw
            case rel => exact ⟨k + 1, HK1.out, by rw [HNX.out]; simp [hpi], by go_num, hbel.alloc hbel.size _⟩
            case measure => simpa [intOf] using HMM.out
          · have hq1 : ((p.at_ : Int) == (i : Int)) = false := by simp; omega
            go_wp2_with (first | ((with_reducible show wpList _ _ _ (⟨some 112, _, _, _, _, _⟩ :: _) _ _); refine wpList_load_mid (op := ⟨some 112, _, _, _, _, _⟩) rfl 73 (.tmp 111) rfl b2 (off2 + k * 33) rfl p.cells _ hr2 Try.underlying73 rfl (by rw [HCL.out]; kernel_rfl) ?_) | ((with_reducible show wpList _ _ _ (⟨some 22, _, _, _, _, _⟩ :: _) _ _); refine step_var (o1 := ⟨some 22, _, _, _, _, _⟩) 73 22 (.tmp 112) 33 _ p.cells.toArray rfl rfl rfl rfl rfl rfl info_put (by decide) (fun _ => rfl) (fun _ => rfl) HCN.out (all_oneCell_toArray p.one) ?_))
            go_roundw
            case rel => exact ⟨k + 1, HK1.out, by rw [HNX.out]; simp [hpi], by go_num, hbel.alloc hbel.size _⟩
            case measure => simpa [intOf] using HMM.out
      · obtain rfl : k = d.writes.length := by omega
        have ht : thereB x li i (d.writes.take d.writes.length) = true := by rw [List.take_length]; exact HTH2.out
        rw [ht]
        have g16r := g16.below hbel (by omega)
        have g18r := g18.below hbel (by omega)
        have heq3 := eq_sec y y HYL.out HYL.out
        have t1 : (y == y) = true := by simp
        rw [t1] at heq3
        go_wp2_with (first | ((with_reducible show wpList _ _ _ (⟨some 129, _, _, _, _, _⟩ :: _) _ _); go_loud (refine step_get_if (o := ⟨some 129, _, _, _, _, _⟩) 60 (.tmp 16) 32 _ (secV y) w5.heap.size rfl rfl rfl g16r Try.underlying60 rfl size_sec (secV_size HYL.out) ?_)) | ((with_reducible show wpList _ _ _ (⟨some 130, _, _, _, _, _⟩ :: _) _ _); go_loud (refine step_get_if (o := ⟨some 130, _, _, _, _, _⟩) 60 (.tmp 18) 32 _ (secV y) w6.heap.size rfl rfl rfl g18r Try.underlying60 rfl size_sec (secV_size HYL.out) ?_)))
        go_ret
        exact ⟨ret_bool (by first | rfl | simp), hwL.trans (hbel.mono (by have := hwL.size; omega))⟩
end Go.Proofs.Ytgakkghlphnoaaa
