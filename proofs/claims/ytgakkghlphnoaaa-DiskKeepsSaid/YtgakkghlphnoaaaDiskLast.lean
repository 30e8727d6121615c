/-
  The walk of DiskLast: it returns true. No condition.
-/
import Derived.Test.YtgakkghlphnoaaaDiskWritten
import Derived.Stop.BytesEq
namespace Go.Proofs.Ytgakkghlphnoaaa
set_option linter.unusedSimpArgs false
set_option linter.unusedVariables false
open Go.RowKit

theorem readL_same (ws : List PutL) (i : Nat) (b s : List UInt8) : readL (ws ++ [⟨i, b⟩]) i s = b := by simp [readL]
theorem readL_other (ws : List PutL) (i j : Nat) (b s : List UInt8) (h : i ≠ j) : readL (ws ++ [⟨i, b⟩]) j s = readL ws j s := by simp [readL, h]
theorem readL_ok {d : DiskL} (h : d.ok) (i : Nat) (hi : i < d.lasts.length) : (readL d.writes i d.lasts[i]).length = 32 := readL_len _ _ _ (h.sec _ (List.getElem_mem _)) (fun p hp => (h.put p hp).1)
section
variable {P : Program} {ops : Array Oper} {rest : List Oper} {a : Act} {Q : Exit → Act → World → Prop} {w : World}
theorem step_get_if {o : Oper} (T : TypeId) (x : Operand) (n : Nat) (d : TypeDesc) (cells : Array Value) (g : Nat)
    (hw : Region.wanted o (yielded ops a.tmps) = true) (ho : o.op = .load T x) (hx : a.eval x = .pointer (some ⟨g, 0, none⟩)) (hb : Blk w g T cells)
    (hu : P.underlying T = some d) (hd : d.isRow = true) (hi : (P.info? T).map (·.size) = some n) (hn : cells.size = n)
    (h : wpList P ops Q rest (a.put o.dst (.agg cells)) w) : wpList P ops Q (o :: rest) a w := by
  have hr : w.rangeAt g 0 cells.toList := by
    have := World.rangeAt_of_block hb 0 cells.size
    simpa using this
  refine wpList_step fun K hK => ?_
  rw [if_pos hw]
  exact wp_load_mid T x ho g 0 hx cells.toList d hr hu hd (by rw [hi]; simp [hn]) (by simpa using hK _ _ h)
end
def zeroSec : List Value := List.replicate 32 (Value.int .u8 0)
theorem built_sec_shape : (fun parts => Try.prog.built 60 parts) = fun parts => Instr.fill (fun i => some (i * 1, 1)) zeroSec.toArray parts := by kernel_rfl
theorem built_last (v : UInt8) : Try.prog.built 60 [(0, .int .u8 (v.toNat : Int)), (31, .int .u8 7)] = some (secV (v :: (List.replicate 30 0 ++ [7]))) := by
  have e := congrFun built_sec_shape [(0, .int .u8 (v.toNat : Int)), (31, .int .u8 7)]
  rw [e, fill_one _ _ _ _ _ 0 1 rfl rfl (by decide)]
  have e2 : (zeroSec.take 0 ++ (Value.int .u8 (v.toNat : Int)).cells.toList ++ zeroSec.drop (0 + 1)) = .int .u8 (v.toNat : Int) :: List.replicate 31 (Value.int .u8 0) := by simp [zeroSec, Value.cells]
  rw [e2, fill_one _ _ _ _ _ 31 1 rfl rfl (by simp)]
  simp [Instr.fill, Value.cells, secV, B8, List.replicate]
theorem size_u8 (w : World) : (sizeOf 5).run Try.prog w = .ok 1 w := by
  obtain ⟨i0, hi, hz0, hz1, hz2⟩ := info_parts info_u8
  simp [sizeOf, typeInfo, hi, hz1]
theorem eq_sec (x y : List UInt8) (hx : x.length = 32) (hy : y.length = 32) (w : World) : (Op.equalIn 10000 60 (.agg (secV x)) (.agg (secV y))).run Try.prog w = .ok (x == y) w :=
  run_equalIn_bytes w 9998 60 5 32 Try.underlying60 Try.underlying5 size_u8 x y hx hy

set_option maxHeartbeats 8000000 in
theorem diskLast_walk (A0 : Option Addr) (l0 : List Raw) (c0 : Nat) (a1 : Int) (a2 : UInt8) (a3 : Int) (w : World) (r0 : RdR w w.heap.size A0 l0) (k0 : l0.length ≤ c0) (m0 : c0 * 40 ≤ 140737488351232) (hok : ∀ r ∈ l0, r.ok) (_w1 : I64 a1) (_w3 : I64 a3) :
    Calls Try.prog 11 #[.slice A0 l0.length c0, .int .i64 a1, .int .u8 (a2.toNat : Int), .int .i64 a3] w fun e w' => e = .returned (.bool true) ∧ Below w.heap.size w w' := by
  go_enter Try.func11, Try.ntmps11
  go_wp2_with fail
  refine (written_any A0 l0 c0 w.heap.size 6 w r0 (Nat.le_refl _) k0 hok (by omega) (by omega)).mono ?_; rintro e w1 ⟨d, A1, c1, A2, c2, rfl, hfit, o1, b1⟩
  obtain ⟨i, hi⟩ := Int.eq_ofNat_of_zero_le (emod_in a1 6 (by omega)).1
  obtain ⟨j, hj⟩ := Int.eq_ofNat_of_zero_le (emod_in a3 6 (by omega)).1
  have hi6 : i < 6 := by have := (emod_in a1 6 (by omega)).2; omega
  have hj6 : j < 6 := by have := (emod_in a3 6 (by omega)).2; omega
  have HI := Lib.hid hi
  have HJ := Lib.hid hj
  clear hi hj
  go_wp2_with fail
  refine (picked_any _ _ _ (by omega) (by omega)).mono ?_; rintro e w' ⟨rfl, rfl⟩
  rw [HI.out]
  go_wp2_with fail
  refine (picked_any _ _ _ (by omega) (by omega)).mono ?_; rintro e w' ⟨rfl, rfl⟩
  rw [HJ.out]
  have hs1 : (a2 :: (List.replicate 30 (0 : UInt8) ++ [7])).length = 32 := by simp
  have hbl := built_last a2
  generalize a2 :: (List.replicate 30 (0 : UInt8) ++ [7]) = s1 at hbl hs1
  have HS := Lib.hid hs1
  have HBL := Lib.hid hbl
  clear hs1 hbl
  have hbel1 : Below w.heap.size w w1 := b1
  have n1 : w.heap.size ≤ w1.heap.size := b1.size
  -- the disk's variable
  have hc9 : Blk ((w1.alloc (.cells #[.slice A1 6 c1, .slice A2 d.writes.length c2] 57)).alloc (.cells (secV s1) 60)) w1.heap.size 57 #[.slice A1 6 c1, .slice A2 d.writes.length c2] := (Blk.new w1 _ _).alloc _
  have q0 := hc9.cell 0
  have q1 := hc9.cell 1
  simp only [List.getElem?_toArray, List.getElem?_cons_zero, List.getElem?_cons_succ] at q0 q1
  go_wp2_with (first
    | ((with_reducible show wpList _ _ _ (⟨some 32, _, _, _, _, _⟩ :: _) _ _); go_loud (refine step_build (o := ⟨some 32, _, _, _, _, _⟩) rfl 60 _ rfl (secV s1) HBL.out ?_))
    | ((with_reducible show wpList _ _ _ (⟨some 13, _, _, _, _, _⟩ :: _) _ _); go_loud (refine step_var (o1 := ⟨some 13, _, _, _, _, _⟩) 60 13 (.tmp 32) 32 _ (secV s1) rfl rfl rfl rfl rfl rfl info_sec (by decide) (fun _ => rfl) (fun _ => rfl) (secV_size HS.out) (secV_one s1) ?_))
    | ((with_reducible show wpList _ _ _ (⟨some 36, _, _, _, _, _⟩ :: _) _ _); go_loud (refine step_get (o := ⟨some 36, _, _, _, _, _⟩) 60 (.tmp 13) 32 _ (secV s1) (w1.heap.size + 1) rfl rfl rfl (by simpa using Blk.new (w1.alloc (.cells #[.slice A1 6 c1, .slice A2 d.writes.length c2] 57)) 60 (secV s1)) Try.underlying60 rfl size_sec (secV_size HS.out) ?_)))
  have hal : Below w1.heap.size w1 ((w1.alloc (.cells #[.slice A1 6 c1, .slice A2 d.writes.length c2] 57)).alloc (.cells (secV s1) 60)) := ((Below.refl _ _).alloc (Nat.le_refl _) _).alloc (by simp) _
  refine (write_any d A1 c1 A2 c2 w1.heap.size 6 d.writes.length i s1 _ (o1.rd.below hal) (by simp; omega) hfit.len rfl hi6 HS.out (by have := hfit.few; omega)).mono ?_; rintro e w2 ⟨B1, e1, B2, e2, rfl, o2, b2⟩
  have hl6 : d.lasts.length = 6 := hfit.len
  have hy : ∀ h' : j < d.lasts.length, (readL d.writes j d.lasts[j]).length = 32 := fun h' => readL_ok o1.ok j h'
  have ho1 := o1.rd
  have hGok := o2.ok
  generalize hG : (⟨d.lasts, d.writes ++ [⟨i, s1⟩]⟩ : DiskL) = G at *
  have hG6 : G.lasts.length = 6 := by rw [← hG]; exact hl6
  have hri : ∀ h : i < G.lasts.length, readL G.writes i G.lasts[i] = s1 := by subst hG; intro h; exact readL_same _ _ _ _
  have hrj : ∀ (h : j < G.lasts.length) (h' : j < d.lasts.length), i ≠ j → readL G.writes j G.lasts[j] = readL d.writes j d.lasts[j] := by subst hG; intro h h' hne; exact readL_other _ _ _ _ _ hne
  have hrl : ∀ h : j < G.lasts.length, (readL G.writes j G.lasts[j]).length = 32 := fun h => readL_ok hGok j h
  have HG6 := Lib.hid hG6
  have HRI := Lib.hid hri
  have HRJ := Lib.hid hrj
  have HRL := Lib.hid hrl
  have HL6 := Lib.hid hl6
  have HY := Lib.hid hy
  clear hG hri hrj hrl hGok
  simp only [hG6]
  clear hG6 hy q0 q1
  have n2 : w1.heap.size + 2 ≤ w2.heap.size := by have := b2.size; simpa using this
  have hb2 : Below w1.heap.size w1 w2 := hal.trans (b2.mono (by simp; omega))
  have c9 := hc9.call b2
  have c13 : Blk w2 (w1.heap.size + 1) 60 (secV s1) := by simpa using (Blk.new (w1.alloc (.cells #[.slice A1 6 c1, .slice A2 d.writes.length c2] 57)) 60 (secV s1)).call b2
  clear hc9 hal b2 hl6
  go_wp2_with fail
  refine (read_any G B1 e1 B2 e2 w2.heap.size 6 G.writes.length i _ (o2.rd.below ((Below.refl _ _).alloc (Nat.le_refl _) _)) (by simp) HG6.out rfl (by rw [HG6.out]; exact hi6)).mono ?_; rintro e w3 ⟨rfl, b3⟩
  rw [HRI.out]
  have n3 : w2.heap.size + 1 ≤ w3.heap.size := by have := b3.size; simpa using this
  have hb3 : Below w2.heap.size w2 w3 := ((Below.refl _ _).alloc (Nat.le_refl _) _).trans (b3.mono (by simp))
  have c14 : Blk w3 w2.heap.size 57 #[.slice B1 6 e1, .slice B2 G.writes.length e2] := (Blk.new w2 _ _).call b3
  have c9 := (c9.alloc _).call b3
  have c13 := (c13.alloc _).call b3
  clear b3
  have q0 := (c14.alloc (.cells (secV s1) 60)).cell 0
  have q1 := (c14.alloc (.cells (secV s1) 60)).cell 1
  simp only [List.getElem?_toArray, List.getElem?_cons_zero, List.getElem?_cons_succ] at q0 q1
  go_wp2_with ((with_reducible show wpList _ _ _ (⟨some 16, _, _, _, _, _⟩ :: _) _ _); go_loud (refine step_var (o1 := ⟨some 16, _, _, _, _, _⟩) 60 16 (.tmp 44) 32 _ (secV s1) rfl rfl rfl rfl rfl rfl info_sec (by decide) (fun _ => rfl) (fun _ => rfl) (secV_size HS.out) (secV_one s1) ?_))
  have hjG : j < G.lasts.length := by rw [HG6.out]; exact hj6
  refine (read_any G B1 e1 B2 e2 w2.heap.size 6 G.writes.length j _ (o2.rd.below (hb3.alloc hb3.size _)) (by simp; omega) HG6.out rfl hjG).mono ?_; rintro e w4 ⟨rfl, b4⟩
  have hrjj := HRJ.out hjG
  have hrll := HRL.out hjG
  generalize readL G.writes j G.lasts[j] = y at *
  have HYL := Lib.hid hrll
  have HRJ2 := Lib.hid hrjj
  clear hrll hrjj HRJ HRL hjG q0 q1
  have n4 : w3.heap.size + 1 ≤ w4.heap.size := by have := b4.size; simpa using this
  have hb4 : Below w3.heap.size w3 w4 := ((Below.refl _ _).alloc (Nat.le_refl _) _).trans (b4.mono (by simp))
  have c16 : Blk w4 w3.heap.size 60 (secV s1) := (Blk.new w3 _ _).call b4
  have c9 := (c9.alloc _).call b4
  have c13 := (c13.alloc _).call b4
  clear b4
  have q0 := (c9.alloc (.cells (secV y) 60)).cell 0
  have q1 := (c9.alloc (.cells (secV y) 60)).cell 1
  simp only [List.getElem?_toArray, List.getElem?_cons_zero, List.getElem?_cons_succ] at q0 q1
  go_wp2_with ((with_reducible show wpList _ _ _ (⟨some 18, _, _, _, _, _⟩ :: _) _ _); go_loud (refine step_var (o1 := ⟨some 18, _, _, _, _, _⟩) 60 18 (.tmp 50) 32 _ (secV y) rfl rfl rfl rfl rfl rfl info_sec (by decide) (fun _ => rfl) (fun _ => rfl) (secV_size HYL.out) (secV_one y) ?_))
  have hb14 : Below w1.heap.size w1 w4 := (hb2.trans (hb3.mono (by omega))).trans (hb4.mono (by omega))
  have hjd : j < d.lasts.length := by rw [HL6.out]; exact hj6
  refine (read_any d A1 c1 A2 c2 w1.heap.size 6 d.writes.length j _ (ho1.below (hb14.alloc (by omega) _)) (by simp; omega) HL6.out rfl hjd).mono ?_; rintro e w5 ⟨rfl, b5⟩
  have hyy := HY.out hjd
  have hrj2 := HRJ2.out hjd
  generalize readL d.writes j (d.lasts[j]'hjd) = z at *
  have HZL := Lib.hid hyy
  have HRJ3 := Lib.hid hrj2
  clear hyy hrj2 HRJ2 HY hjd q0 q1
  have n5 : w4.heap.size + 1 ≤ w5.heap.size := by have := b5.size; simpa using this
  have hb5 : Below w4.heap.size w4 w5 := ((Below.refl _ _).alloc (Nat.le_refl _) _).trans (b5.mono (by simp))
  have c18 : Blk w5 w4.heap.size 60 (secV y) := (Blk.new w4 _ _).call b5
  have c13 := (c13.alloc _).call b5
  have c16 := (c16.alloc _).call b5
  clear b5
  have f13 := c13.alloc (.cells (secV z) 60)
  have f16 := c16.alloc (.cells (secV z) 60)
  have f18 := c18.alloc (.cells (secV z) 60)
  have f20 := Blk.new w5 60 (secV z)
  have e1' := eq_sec s1 s1 HS.out HS.out
  have e2' := eq_sec y z HYL.out HZL.out
  have t1 : (s1 == s1) = true := by simp
  have hwF : Below w.heap.size w (w5.alloc (.cells (secV z) 60)) := (hbel1.trans (hb14.mono n1)).trans ((hb5.mono (by omega)).alloc (by omega) _)
  rw [t1] at e1'
  by_cases hij : i = j
  · have t2 : ((i : Int) == (j : Int)) = true := by simp [hij]
    generalize (y == z) = q at e2'
    cases q with
    | true =>
      go_wp2_with (first | ((with_reducible show wpList _ _ _ (⟨some 20, _, _, _, _, _⟩ :: _) _ _); (refine step_var (o1 := ⟨some 20, _, _, _, _, _⟩) 60 20 (.tmp 56) 32 _ (secV z) rfl rfl rfl rfl rfl rfl info_sec (by decide) (fun _ => rfl) (fun _ => rfl) (secV_size HZL.out) (secV_one z) ?_)) | ((with_reducible show wpList _ _ _ (⟨some 76, _, _, _, _, _⟩ :: _) _ _); (refine step_get_if (o := ⟨some 76, _, _, _, _, _⟩) 60 (.tmp 16) 32 _ (secV s1) w3.heap.size rfl rfl rfl f16 Try.underlying60 rfl size_sec (secV_size HS.out) ?_)) | ((with_reducible show wpList _ _ _ (⟨some 77, _, _, _, _, _⟩ :: _) _ _); (refine step_get_if (o := ⟨some 77, _, _, _, _, _⟩) 60 (.tmp 13) 32 _ (secV s1) (w1.heap.size + 1) rfl rfl rfl f13 Try.underlying60 rfl size_sec (secV_size HS.out) ?_)) | ((with_reducible show wpList _ _ _ (⟨some 81, _, _, _, _, _⟩ :: _) _ _); (refine step_get_if (o := ⟨some 81, _, _, _, _, _⟩) 60 (.tmp 18) 32 _ (secV y) w4.heap.size rfl rfl rfl f18 Try.underlying60 rfl size_sec (secV_size HYL.out) ?_)) | ((with_reducible show wpList _ _ _ (⟨some 82, _, _, _, _, _⟩ :: _) _ _); (refine step_get_if (o := ⟨some 82, _, _, _, _, _⟩) 60 (.tmp 20) 32 _ (secV z) w5.heap.size rfl rfl rfl f20 Try.underlying60 rfl size_sec (secV_size HZL.out) ?_)))
      go_ret
      exact ⟨ret_bool (by first | rfl | simp), hwF⟩
    | false =>
      go_wp2_with (first | ((with_reducible show wpList _ _ _ (⟨some 20, _, _, _, _, _⟩ :: _) _ _); (refine step_var (o1 := ⟨some 20, _, _, _, _, _⟩) 60 20 (.tmp 56) 32 _ (secV z) rfl rfl rfl rfl rfl rfl info_sec (by decide) (fun _ => rfl) (fun _ => rfl) (secV_size HZL.out) (secV_one z) ?_)) | ((with_reducible show wpList _ _ _ (⟨some 76, _, _, _, _, _⟩ :: _) _ _); (refine step_get_if (o := ⟨some 76, _, _, _, _, _⟩) 60 (.tmp 16) 32 _ (secV s1) w3.heap.size rfl rfl rfl f16 Try.underlying60 rfl size_sec (secV_size HS.out) ?_)) | ((with_reducible show wpList _ _ _ (⟨some 77, _, _, _, _, _⟩ :: _) _ _); (refine step_get_if (o := ⟨some 77, _, _, _, _, _⟩) 60 (.tmp 13) 32 _ (secV s1) (w1.heap.size + 1) rfl rfl rfl f13 Try.underlying60 rfl size_sec (secV_size HS.out) ?_)) | ((with_reducible show wpList _ _ _ (⟨some 81, _, _, _, _, _⟩ :: _) _ _); (refine step_get_if (o := ⟨some 81, _, _, _, _, _⟩) 60 (.tmp 18) 32 _ (secV y) w4.heap.size rfl rfl rfl f18 Try.underlying60 rfl size_sec (secV_size HYL.out) ?_)) | ((with_reducible show wpList _ _ _ (⟨some 82, _, _, _, _, _⟩ :: _) _ _); (refine step_get_if (o := ⟨some 82, _, _, _, _, _⟩) 60 (.tmp 20) 32 _ (secV z) w5.heap.size rfl rfl rfl f20 Try.underlying60 rfl size_sec (secV_size HZL.out) ?_)))
      go_ret
      exact ⟨ret_bool (by first | rfl | simp [hij]), hwF⟩
  · have hyz := HRJ3.out hij
    subst hyz
    have t3 : (y == y) = true := by simp
    rw [t3] at e2'
    go_wp2_with (first | ((with_reducible show wpList _ _ _ (⟨some 20, _, _, _, _, _⟩ :: _) _ _); (refine step_var (o1 := ⟨some 20, _, _, _, _, _⟩) 60 20 (.tmp 56) 32 _ (secV y) rfl rfl rfl rfl rfl rfl info_sec (by decide) (fun _ => rfl) (fun _ => rfl) (secV_size HZL.out) (secV_one y) ?_)) | ((with_reducible show wpList _ _ _ (⟨some 76, _, _, _, _, _⟩ :: _) _ _); (refine step_get_if (o := ⟨some 76, _, _, _, _, _⟩) 60 (.tmp 16) 32 _ (secV s1) w3.heap.size rfl rfl rfl f16 Try.underlying60 rfl size_sec (secV_size HS.out) ?_)) | ((with_reducible show wpList _ _ _ (⟨some 77, _, _, _, _, _⟩ :: _) _ _); (refine step_get_if (o := ⟨some 77, _, _, _, _, _⟩) 60 (.tmp 13) 32 _ (secV s1) (w1.heap.size + 1) rfl rfl rfl f13 Try.underlying60 rfl size_sec (secV_size HS.out) ?_)) | ((with_reducible show wpList _ _ _ (⟨some 81, _, _, _, _, _⟩ :: _) _ _); (refine step_get_if (o := ⟨some 81, _, _, _, _, _⟩) 60 (.tmp 18) 32 _ (secV y) w4.heap.size rfl rfl rfl f18 Try.underlying60 rfl size_sec (secV_size HYL.out) ?_)) | ((with_reducible show wpList _ _ _ (⟨some 82, _, _, _, _, _⟩ :: _) _ _); (refine step_get_if (o := ⟨some 82, _, _, _, _, _⟩) 60 (.tmp 20) 32 _ (secV y) w5.heap.size rfl rfl rfl f20 Try.underlying60 rfl size_sec (secV_size HZL.out) ?_)))
    go_ret
    exact ⟨ret_bool (by first | rfl | simp), hwF⟩
end Go.Proofs.Ytgakkghlphnoaaa
