/-
  The walk of CrcBurst: it returns true. The argument's slice is read below new memory.
-/
import Derived.Test.YtgakkghlphnoaaaCrcLaw
import Derived.Deep.DeepMust
import Derived.Test.YtgakkghlphnoaaaOpen
import Derived.Test.YtgakkghlphnoaaaApp
import Derived.Test.YtgakkghlphnoaaaRegion
namespace Go.Proofs.Ytgakkghlphnoaaa
set_option linter.unusedSimpArgs false
set_option linter.unusedVariables false
open Go.RowKit

def by4 (a b x y : UInt8) (i : Nat) : UInt8 := [a, b, x, y].getD i 0
/-- The line c of the law when i of the four bytes are done. -/
def burst (l : List UInt8) (k : Nat) (y : Nat → UInt8) : Nat → List UInt8
  | 0 => l
  | i + 1 => (burst l k y i).set (k + i) ((burst l k y i)[k + i]?.getD 0 ^^^ y i)
theorem burst_len (l : List UInt8) (k : Nat) (y : Nat → UInt8) (i : Nat) : (burst l k y i).length = l.length := by
  induction i with
  | zero => rfl
  | succ i ih => simp [burst, ih]
theorem burst_at (l : List UInt8) (k : Nat) (y : Nat → UInt8) (i j : Nat) (h : j < k ∨ k + i ≤ j) : (burst l k y i)[j]? = l[j]? := by
  induction i with
  | zero => rfl
  | succ i ih =>
    simp only [burst]
    rw [List.getElem?_set_ne (by omega)]
    exact ih (by omega)
theorem info_byte : (Try.prog.info? 5).map (fun i => (i.zero, i.size, i.bytes)) = some (some (.int .u8 0), 1, 1) := info_u8

theorem index4 (a b x y : UInt8) (i : Nat) (hi : i < 4) (W : World) : (Instr.index 26 (.agg #[B8 a, B8 b, B8 x, B8 y]) (.int .i64 (i : Int))).run Try.prog W = .ok (.int .u8 ((by4 a b x y i).toNat : Int)) W := by
  rcases (by omega : i = 0 ∨ i = 1 ∨ i = 2 ∨ i = 3) with rfl | rfl | rfl | rfl <;> kernel_rfl
theorem crcBurst_walk (A0 : Option Addr) (l0 : List UInt8) (c0 : Nat) (a1 : Int) (y0 y1 y2 y3 : UInt8) (w : World)
    (r0 : RdB w w.heap.size A0 l0) (k0 : l0.length ≤ c0) (m0 : c0 ≤ 140737488351232) (_w1 : I64 a1) :
    Calls Try.prog 4 #[.slice A0 l0.length c0, .int .i64 a1, .agg #[B8 y0, B8 y1, B8 y2, B8 y3]] w fun e w' => e = .returned (.bool true) ∧ Below w.heap.size w w' := by
  obtain ⟨n, hn⟩ : ∃ n : Nat, n = min l0.length 200 := ⟨_, rfl⟩
  have n0 : n ≤ l0.length := by omega
  have n3 : n ≤ 200 := by omega
  have nc : n ≤ c0 := by omega
  have hmin : ∀ w' : World, (Builtin.min_ #[3, 3] 3 #[.int .i64 (l0.length : Int), .int .i64 200]).run Try.prog w' = .ok (.int .i64 (n : Int)) w' :=
    fun w' => by rw [run_min_int2]; congr 2; split <;> omega
  have rl := r0.take n0
  have hl : (l0.take n).length = n := by simp; omega
  generalize l0.take n = l at *
  have rn : Reads w w.heap.size 1 A0 n (l.map B8) := by have h := rl; unfold RdB at h; rwa [hl] at h
  have HL := Lib.hid hl
  have hx := emod_in a1 ((n : Int) + 1) (by omega)
  clear hn hl
  go_enter Try.func4, Try.ntmps4
  go_wp2_with (at_builtin; go_must (refine app_own 22 5 _ 1 1 (.tmp 16) (.tmp 17) rfl rfl Try.underlying22 info_u8 rfl (by decide) (w0 := w) rfl (n := 0) (xs := []) (own_none _ _ _ _ _ (by simp) (by simp)) (((Below.refl _ _).alloc (Nat.le_refl _) _).alloc (by simp) _) rfl (m := n) (B := w.heap.size) (news := l.map B8) ((rn.alloc (Nat.le_refl _) _).alloc (by simp) _) (one_B8 l) (by omega) (by simp [maxLen]; omega) ?_); intro A' c' w1 hown hc1 hc2 hbel hgr _)
  refine (picked_any _ _ _ (by omega) (by omega)).mono ?_; rintro e w' ⟨rfl, rfl⟩
  have hbox : Blk w1 w.heap.size 26 #[B8 y0, B8 y1, B8 y2, B8 y3] := ((Blk.new w _ _).alloc _).grown hgr (by simp [Value.ownBlock, Act.eval])
  have b0 : w1.cell? ⟨w.heap.size, 0, none⟩ = some (B8 y0) := hbox.cell 0
  have b1 : w1.cell? ⟨w.heap.size, 1, none⟩ = some (B8 y1) := hbox.cell 1
  have b2 : w1.cell? ⟨w.heap.size, 2, none⟩ = some (B8 y2) := hbox.cell 2
  have b3 : w1.cell? ⟨w.heap.size, 3, none⟩ = some (B8 y3) := hbox.cell 3
  clear hgr hbox
  rw [Nat.zero_add, List.nil_append] at hown
  generalize hk : a1 % ((n : Int) + 1) = kk at *
  obtain ⟨k, rfl⟩ := Int.eq_ofNat_of_zero_le hx.1
  clear hk
  go_wp2_with fail
  clear b0 b1 b2 b3
  have IX := index4 y0 y1 y2 y3
  generalize by4 y0 y1 y2 y3 = y at *
  go_loopw [25] (fun i wr => ∃ m : Nat, m ≤ 4 ∧ i = .int .i64 m ∧ wr.ownsRow w.heap.size 5 1 (.slice A' n c') n ((burst l k y m).map B8) ∧ Below w.heap.size w wr) (fun i _ => 4 - (intOf i).toNat)
  case atStart => exact ⟨0, by omega, rfl, hown, hbel⟩
  case round =>
    clear hown hbel
    obtain ⟨m, hm, rfl, hown, hbel⟩ := hrel
    by_cases hlt : m < 4
    · have ix := IX m hlt
      clear IX
      have hkm : (k : Int) + m < (n : Int) ∨ ¬ ((k : Int) + m < (n : Int)) := Decidable.em _
      by_cases hc : k + m < n
      · obtain ⟨g, cap, hv, hg, hg2⟩ := hown.form (by omega)
        injection hv with h1 h2 h3
        subst h1 h3
        have hbl := burst_len l k y m
        rw [HL.out] at hbl
        have hu : ((burst l k y m).map B8)[k + m]? = some (B8 ((burst l k y m)[k + m]?.getD 0)) := by
          rw [List.getElem?_map, List.getElem?_eq_getElem (by omega)]; rfl
        obtain ⟨c1, f1⟩ := own_cell hown (k + m) _ hu
        have hst := own_set hown (k + m) (B8 ((burst l k y m)[k + m]?.getD 0 ^^^ y m)) hc
        have hst2 : (burst l k y (m + 1)).map B8 = ((burst l k y m).map B8).set (k + m) (B8 ((burst l k y m)[k + m]?.getD 0 ^^^ y m)) := by
          simp only [burst]; rw [List.map_set]
        generalize (burst l k y m)[k + m]?.getD 0 = p at *
        have hp : p.toNat < 256 := p.toNat_lt
        have hq : (y m).toNat < 256 := (y m).toNat_lt
        have e : bits BinOp.xor IntKind.u8 (p.toNat : Int) ((y m).toNat : Int) = ((p ^^^ y m).toNat : Int) := by rw [u8_xor_nat _ _ hp hq, UInt8.toNat_xor]
        have E := Lib.hid e
        have HS := Lib.hid hst2
        clear hst2 hbl hu hkm e
        unfold B8 at c1
        go_wp2_with fail
        go_roundw
        case rel => exact ⟨m + 1, by omega, by go_num, by rw [HS.out, E.out]; exact hst, hbel.setCell hg _⟩
        case measure => simp [intOf]; omega
      · have hst2 : (burst l k y (m + 1)) = burst l k y m := by
          simp only [burst]
          rw [List.set_eq_of_length_le (by rw [burst_len, HL.out]; omega)]
        have HS := Lib.hid hst2
        clear hst2 hkm
        go_wp2_with fail
        go_roundw
        case rel => exact ⟨m + 1, by omega, by go_num, by rw [HS.out]; exact hown, hbel⟩
        case measure => simp [intOf]; omega
    · obtain rfl : m = 4 := by omega
      have hbl := burst_len l k y 4
      rw [HL.out] at hbl
      have hiff := crc_burst l (burst l k y 4) k (burst_len l k y 4) (fun i hi => (burst_at l k y 4 i hi).symm)
      have rC : RdB wr wr.heap.size A' (burst l k y 4) := by
        have := Reads.of_own hown
        unfold RdB
        rwa [hbl]
      have rL := rl.below hbel
      generalize burst l k y 4 = C at *
      clear IX
      have h12 : ((crcL [1] : Int) != (crcL [2] : Int)) = true := by
        have := crc_1_2
        rw [bne_iff_ne]; omega
      have hnn : n ≤ 140737488355328 := by omega
      have hll := HL.out
      have cL := fun W hW => crc_at A0 n c0 l w.heap.size W hW hll hnn
      have cC := fun W hW => crc_at A' n c' C wr.heap.size W hW hbl hnn
      have hq : (((crcL l : Int) == (crcL C : Int)) == (l == C)) = true := by
        by_cases h : l = C
        · subst h; simp
        · have h1 : crcL l ≠ crcL C := fun e => h (hiff.1 e)
          have h2 : (l == C) = false := by simpa using h
          have h3 : ((crcL l : Int) == (crcL C : Int)) = false := by simp; omega
          rw [h2, h3]; rfl
      have hs : ((Str l).toList == (Str C).toList) = (l == C) := by rw [Str_list, Str_list]
      clear hiff hmin hown
      generalize crcL l = ZL at *
      generalize crcL C = ZC at *
      have CL := Lib.hid cL
      have CC := Lib.hid cC
      have HBL := Lib.hid hbl
      have HSS := Lib.hid hs
      clear cL cC hbl hs hll
      go_wp2_with fail
      refine region_tab (by kernel_rfl) (fun W => Below wr.heap.size wr W) [Is (.slice A0 n c0), Is (.int .u32 ZL), Is (.slice A' n c'), Is (.int .u32 ZC), Is (.bool ((ZL : Int) == (ZC : Int))), Is (.slice A0 n c0), Is (.string (Str l)), Is (.slice A' n c'), Is (.string (Str C)), Is (.bool (l == C)), Is (.bool true), Is (.bool true), OneB 1, Is (.int .u32 (crcL [1])), OneB 2, Is (.int .u32 (crcL [2])), Is (.bool true), Is (.bool true), Is (.bool true)] (by kernel_rfl) (by kernel_rfl) (Below.refl _ _).drew (by
        repeat (first | exact List.forall_mem_nil _ | refine List.forall_mem_cons.2 ⟨by first | exact stable_is _ | exact stable_oneB _, ?_⟩)) ?_ ?_
      · refine .cons (step_plain rfl fun a W hI hag hd K hK => ?_) ?_
        · have d0 := hag.eval 0 (by kernel_rfl)
          clear hag hd
          go_simp
          exact hK _ _ hI (Below.refl _ _) rfl
        refine .cons (step_plain rfl fun a W hI hag hd K hK => ?_) ?_
        · have d45 : a.tmps.getD 45 undef = _ := hd ⟨0, .data⟩ (by simp) rfl
          clear hag hd
          go_simp
          refine (CL.out _ (rL.below (hI.mono hbel.size))).mono ?_; rintro e w' ⟨rfl, rfl⟩; exact hK _ _ hI (Below.refl _ _) rfl
        refine .cons (step_plain rfl fun a W hI hag hd K hK => ?_) ?_
        · have d7 := hag.eval 7 (by kernel_rfl)
          clear hag hd
          go_simp
          exact hK _ _ hI (Below.refl _ _) rfl
        refine .cons (step_plain rfl fun a W hI hag hd K hK => ?_) ?_
        · have d47 : a.tmps.getD 47 undef = _ := hd ⟨2, .data⟩ (by simp) rfl
          clear hag hd
          go_simp
          refine (CC.out _ (rC.below hI)).mono ?_; rintro e w' ⟨rfl, rfl⟩; exact hK _ _ hI (Below.refl _ _) rfl
        refine .cons (step_plain rfl fun a W hI hag hd K hK => ?_) ?_
        · have d46 : a.tmps.getD 46 undef = _ := hd ⟨1, .data⟩ (by simp) rfl
          have d48 : a.tmps.getD 48 undef = _ := hd ⟨3, .data⟩ (by simp) rfl
          clear hag hd
          go_simp
          exact hK _ _ hI (Below.refl _ _) rfl
        refine .cons (step_plain rfl fun a W hI hag hd K hK => ?_) ?_
        · have d0 := hag.eval 0 (by kernel_rfl)
          clear hag hd
          go_simp
          exact hK _ _ hI (Below.refl _ _) rfl
        refine .cons (step_plain rfl fun a W hI hag hd K hK => ?_) ?_
        · have d50 : a.tmps.getD 50 undef = _ := hd ⟨5, .data⟩ (by simp) rfl
          clear hag hd
          have hcv := conv_str (c := c0) (rL.below (hI.mono hbel.size)) HL.out
          go_simp
          exact hK _ _ hI (Below.refl _ _) rfl
        refine .cons (step_plain rfl fun a W hI hag hd K hK => ?_) ?_
        · have d7 := hag.eval 7 (by kernel_rfl)
          clear hag hd
          go_simp
          exact hK _ _ hI (Below.refl _ _) rfl
        refine .cons (step_plain rfl fun a W hI hag hd K hK => ?_) ?_
        · have d52 : a.tmps.getD 52 undef = _ := hd ⟨7, .data⟩ (by simp) rfl
          clear hag hd
          have hcv := conv_str (c := c') (rC.below hI) HBL.out
          go_simp
          exact hK _ _ hI (Below.refl _ _) rfl
        refine .cons (step_plain rfl fun a W hI hag hd K hK => ?_) ?_
        · have d51 : a.tmps.getD 51 undef = _ := hd ⟨6, .data⟩ (by simp) rfl
          have d53 : a.tmps.getD 53 undef = _ := hd ⟨8, .data⟩ (by simp) rfl
          clear hag hd
          go_simp
          rw [HSS.out]; exact hK _ _ hI (Below.refl _ _) rfl
        refine .cons (step_plain rfl fun a W hI hag hd K hK => ?_) ?_
        · have d49 : a.tmps.getD 49 undef = _ := hd ⟨4, .data⟩ (by simp) rfl
          have d54 : a.tmps.getD 54 undef = _ := hd ⟨9, .data⟩ (by simp) rfl
          clear hag hd
          go_simp
          exact hK _ _ hI (Below.refl _ _) rfl
        refine .cons (step_plain rfl fun a W hI hag hd K hK => ?_) ?_
        · have d55 : a.tmps.getD 55 undef = _ := hd ⟨10, .data⟩ (by simp) rfl
          clear hag hd
          go_simp
          exact hK _ _ hI (Below.refl _ _) rfl
        refine .cons (step_yes (j := 11) rfl (by kernel_rfl) (fun _ _ h => h) fun a W hI hag hd K hK => ?_) ?_
        · clear hag hd
          go_simp
          exact hK _ _ (hI.alloc hI.size _) ((Below.refl _ _).alloc (Nat.le_refl _) _) ⟨W.heap.size, rfl, by simp, by simp [go_sem]⟩
        refine .cons (step_yes (j := 11) rfl (by kernel_rfl) (fun _ _ h => h) fun a W hI hag hd K hK => ?_) ?_
        · obtain ⟨g57, d57, hg57, hc57⟩ : OneB 1 (a.tmps.getD 57 undef) W := hd ⟨12, .data⟩ (by simp) rfl
          clear hag hd
          go_simp
          refine (crc_one g57 1 1 _ hc57 rfl).mono ?_; rintro e w' ⟨rfl, rfl⟩; exact hK _ _ hI (Below.refl _ _) rfl
        refine .cons (step_yes (j := 11) rfl (by kernel_rfl) (fun _ _ h => h) fun a W hI hag hd K hK => ?_) ?_
        · clear hag hd
          go_simp
          exact hK _ _ (hI.alloc hI.size _) ((Below.refl _ _).alloc (Nat.le_refl _) _) ⟨W.heap.size, rfl, by simp, by simp [go_sem]⟩
        refine .cons (step_yes (j := 11) rfl (by kernel_rfl) (fun _ _ h => h) fun a W hI hag hd K hK => ?_) ?_
        · obtain ⟨g59, d59, hg59, hc59⟩ : OneB 2 (a.tmps.getD 59 undef) W := hd ⟨14, .data⟩ (by simp) rfl
          clear hag hd
          go_simp
          refine (crc_one g59 2 2 _ hc59 rfl).mono ?_; rintro e w' ⟨rfl, rfl⟩; exact hK _ _ hI (Below.refl _ _) rfl
        refine .cons (step_yes (j := 11) rfl (by kernel_rfl) (fun _ _ h => h) fun a W hI hag hd K hK => ?_) ?_
        · have d58 : a.tmps.getD 58 undef = _ := hd ⟨13, .data⟩ (by simp) rfl
          have d60 : a.tmps.getD 60 undef = _ := hd ⟨15, .data⟩ (by simp) rfl
          clear hag hd
          go_simp
          exact hK _ _ hI (Below.refl _ _) rfl
        refine .cons (step_plain rfl fun a W hI hag hd K hK => ?_) ?_
        · have d56 : a.tmps.getD 56 undef = _ := hd ⟨11, .data⟩ (by simp) rfl
          have d61 : a.tmps.getD 61 undef = _ := hd ⟨16, .data⟩ (by simp) rfl
          clear hag hd
          go_simp
          exact hK _ _ hI (Below.refl _ _) rfl
        refine .cons (step_plain rfl fun a W hI hag hd K hK => ?_) ?_
        · have d62 : a.tmps.getD 62 undef = _ := hd ⟨17, .data⟩ (by simp) rfl
          clear hag hd
          go_simp
          exact hK _ _ hI (Below.refl _ _) rfl
        exact .nil
      · intro a W hI hag hV
        have d6 : a.tmps.getD 6 undef = .bool true := hV 18 (by simp)
        have hdf : a.defers = [] := hag.defers
        clear hV hag
        go_wp2_with fail
        refine bodyPost_ret (results_tmp rfl _ _ _) hdf ?_
        exact ⟨by rw [d6], hbel.trans (hI.mono hbel.size)⟩
end Go.Proofs.Ytgakkghlphnoaaa
