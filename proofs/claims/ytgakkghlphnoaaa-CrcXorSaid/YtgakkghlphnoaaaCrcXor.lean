/-
  The walk of CrcXor: it returns true, and writes nothing that was there. The arguments' slices are read below new memory.
-/
import Derived.Test.YtgakkghlphnoaaaCrcLaw
import Derived.Test.YtgakkghlphnoaaaOpen
import Derived.Laws.MakeOwn
import Derived.OwnWalk
import Derived.Deep.RegionWith
import Derived.RegionTactic
import Derived.Test.YtgakkghlphnoaaaRegion
namespace Go.Proofs.Ytgakkghlphnoaaa
set_option linter.unusedSimpArgs false
set_option linter.unusedVariables false
open Go.RowKit

/-- The line d of the law, as far as k bytes are done. -/
def xorL (a b c : List UInt8) (n : Nat) : List UInt8 := (List.range n).map fun i => a[i]?.getD 0 ^^^ b[i]?.getD 0 ^^^ c[i]?.getD 0
def xorD (a b c : List UInt8) (n k : Nat) : List UInt8 := (xorL a b c n).take k ++ List.replicate (n - k) 0
theorem xorL_len (a b c : List UInt8) (n : Nat) : (xorL a b c n).length = n := by simp [xorL]
theorem xorD_len (a b c : List UInt8) (n k : Nat) (hk : k ≤ n) : (xorD a b c n k).length = n := by simp [xorD, xorL_len]; omega
theorem xorD_zero (a b c : List UInt8) (n : Nat) : xorD a b c n 0 = List.replicate n 0 := by simp [xorD]
theorem xorD_full (a b c : List UInt8) (n : Nat) : xorD a b c n n = xorL a b c n := by
  unfold xorD
  rw [List.take_of_length_le (by rw [xorL_len]; omega)]; simp
theorem xorD_succ (a b c : List UInt8) (n k : Nat) (hk : k < n) : xorD a b c n (k + 1) = (xorD a b c n k).set k (a[k]?.getD 0 ^^^ b[k]?.getD 0 ^^^ c[k]?.getD 0) := by
  unfold xorD
  rw [List.take_succ_eq_append_getElem (by rw [xorL_len]; omega)]
  have hx : (xorL a b c n)[k]'(by rw [xorL_len]; omega) = a[k]?.getD 0 ^^^ b[k]?.getD 0 ^^^ c[k]?.getD 0 := by simp [xorL]
  rw [hx]
  have e : n - k = (n - (k + 1)) + 1 := by omega
  rw [e, List.replicate_succ]
  rw [List.set_append_right _ _ (by simp; omega)]
  simp [List.length_take, xorL_len, Nat.min_eq_left (Nat.le_of_lt hk)]

theorem crcXor_walk (A0 : Option Addr) (l0 : List UInt8) (c0 : Nat) (A1 : Option Addr) (l1 : List UInt8) (c1 : Nat) (A2 : Option Addr) (l2 : List UInt8) (c2 : Nat) (w : World)
    (r0 : RdB w w.heap.size A0 l0) (k0 : l0.length ≤ c0) (m0 : c0 ≤ 140737488351232) (r1 : RdB w w.heap.size A1 l1) (k1 : l1.length ≤ c1) (m1 : c1 ≤ 140737488351232) (r2 : RdB w w.heap.size A2 l2) (k2 : l2.length ≤ c2) (m2 : c2 ≤ 140737488351232) :
    Calls Try.prog 3 #[.slice A0 l0.length c0, .slice A1 l1.length c1, .slice A2 l2.length c2] w fun e w' => e = .returned (.bool true) ∧ Below w.heap.size w w' := by
  obtain ⟨n, hn⟩ : ∃ n : Nat, n = min (min (min l0.length l1.length) l2.length) 200 := ⟨_, rfl⟩
  have n0 : n ≤ l0.length := by omega
  have n1 : n ≤ l1.length := by omega
  have n2 : n ≤ l2.length := by omega
  have n3 : n ≤ 200 := by omega
  have hmin : ∀ w' : World, (Builtin.min_ #[3, 3, 3, 3] 3 #[.int .i64 (l0.length : Int), .int .i64 (l1.length : Int), .int .i64 (l2.length : Int), .int .i64 200]).run Try.prog w' = .ok (.int .i64 (n : Int)) w' :=
    fun w' => run_min4 _ _ _ _ _ _ _ _ _ _ _ (by omega)
  clear hn
  have hmk := make_bytes n (by omega)
  go_enter Try.func3, Try.ntmps3
  go_wp2_with fail
  go_loopw [21] (fun i wr => ∃ k : Nat, k ≤ n ∧ i = .int .i64 k ∧ Blk wr w.heap.size 5 (BC (xorD l0 l1 l2 n k)) ∧ Below w.heap.size w wr) (fun i _ => n - (intOf i).toNat)
  case atStart => exact ⟨0, by omega, rfl, by rw [xorD_zero]; exact Blk.new _ _ _, (Below.refl _ _).alloc (Nat.le_refl _) _⟩
  case round =>
    obtain ⟨k, hk, rfl, hblk, hbel⟩ := hrel
    by_cases hlt : k < n
    · obtain ⟨b0, o0, rfl, hb0, hc0⟩ := (r0.below hbel).at_ (k := k) (by omega)
      obtain ⟨b1, o1, rfl, hb1, hc1⟩ := (r1.below hbel).at_ (k := k) (by omega)
      obtain ⟨b2, o2, rfl, hb2, hc2⟩ := (r2.below hbel).at_ (k := k) (by omega)
      have hd := (hblk.cell k).trans (BC_at _ _ (by rw [xorD_len _ _ _ _ _ hk]; exact hlt))
      have hfd := hblk.frozen k
      have hset := hblk.set_ k (B8 (l0[k] ^^^ l1[k] ^^^ l2[k]))
      have hsz := hblk.lt
      have E0 : Hid (l0[k]?.getD 0 = l0[k]) := by simp [Hid, List.getElem?_eq_getElem (show k < l0.length by omega)]
      have E1 : Hid (l1[k]?.getD 0 = l1[k]) := by simp [Hid, List.getElem?_eq_getElem (show k < l1.length by omega)]
      have E2 : Hid (l2[k]?.getD 0 = l2[k]) := by simp [Hid, List.getElem?_eq_getElem (show k < l2.length by omega)]
      generalize l0[k] = x0 at *
      generalize l1[k] = x1 at *
      generalize l2[k] = x2 at *
      go_wp2_with fail
      go_region
      go_wp2_with fail
      go_roundw
      case rel =>
        have hx01 : x0.toNat < 256 := x0.toNat_lt
        have hx11 : x1.toNat < 256 := x1.toNat_lt
        have hx21 : x2.toNat < 256 := x2.toNat_lt
        have e : Value.int IntKind.u8 (bits BinOp.xor IntKind.u8 (bits BinOp.xor IntKind.u8 (x0.toNat : Int) (x1.toNat : Int)) (x2.toNat : Int)) = B8 (x0 ^^^ x1 ^^^ x2) := by
          rw [u8_xor_nat _ _ hx01 hx11, u8_xor_nat _ _ (Nat.xor_lt_two_pow (n := 8) hx01 hx11) hx21]
          unfold B8
          rw [UInt8.toNat_xor, UInt8.toNat_xor]
        rw [e]
        refine ⟨k + 1, by omega, by go_num, ?_, (hbel.setCell (Nat.le_refl _) _).drew⟩
        rw [xorD_succ _ _ _ _ _ hlt, E0.out, E1.out, E2.out]
        rw [show BC ((xorD l0 l1 l2 n k).set k (x0 ^^^ x1 ^^^ x2)) = (BC (xorD l0 l1 l2 n k)).setIfInBounds k (B8 (x0 ^^^ x1 ^^^ x2)) from (BC_set _ _ _).symm]
        exact hset.drew
      case measure => simp [intOf]; omega
    · obtain rfl : k = n := by omega
      rw [xorD_full] at hblk
      have rD := hblk.rdB hblk.lt
      have rA := (r0.below hbel).take n0
      have rB := (r1.below hbel).take n1
      have rC := (r2.below hbel).take n2
      have hq := crc_xor3 (l0.take k) (l1.take k) (l2.take k) (xorL l0 l1 l2 k) (by simp [xorL_len]; omega) (by simp [xorL_len]; omega) (by simp [xorL_len]; omega) (fun i hi => by
        rw [xorL_len] at hi
        simp [xorL, hi])
      have hla : (l0.take k).length = k := by simp; omega
      have hlb : (l1.take k).length = k := by simp; omega
      have hlc : (l2.take k).length = k := by simp; omega
      have hld := xorL_len l0 l1 l2 k
      have qa := crcL_lt (l0.take k)
      have qb := crcL_lt (l1.take k)
      have qc := crcL_lt (l2.take k)
      generalize xorL l0 l1 l2 k = D at *
      generalize l0.take k = DA at *
      generalize l1.take k = DB at *
      generalize l2.take k = DC at *
      have h12 : ((crcL [1] : Int) != (crcL [2] : Int)) = true := by
        have := crc_1_2
        rw [bne_iff_ne]; omega
      have hqq : ((crcL D : Int) == bits .xor .u32 (bits .xor .u32 (crcL DA : Int) (crcL DB : Int)) (crcL DC : Int)) = true := by
        rw [u32_xor_nat _ _ qa qb, u32_xor_nat _ _ (Nat.xor_lt_two_pow (n := 32) qa qb) qc, hq]; simp
      have HLA := Lib.hid hla
      have HLB := Lib.hid hlb
      have HLC := Lib.hid hlc
      have HLD := Lib.hid hld
      clear hla hlb hlc hld hq hmin hmk hblk r0 r1 r2 qa qb qc
      have cD := fun W hW => crc_at (some ⟨w.heap.size, 0, none⟩) k k D wr.heap.size W hW HLD.out (by omega)
      have cA := fun W hW => crc_at A0 k c0 DA w.heap.size W hW HLA.out (by omega)
      have cB := fun W hW => crc_at A1 k c1 DB w.heap.size W hW HLB.out (by omega)
      have cC := fun W hW => crc_at A2 k c2 DC w.heap.size W hW HLC.out (by omega)
      generalize crcL D = ZD at *
      generalize crcL DA = ZA at *
      generalize crcL DB = ZB at *
      generalize crcL DC = ZC at *
      have CD := Lib.hid cD
      have CA := Lib.hid cA
      have CB := Lib.hid cB
      have CC := Lib.hid cC
      clear cD cA cB cC
      clear HLA HLB HLC HLD
      have kc0 : k ≤ c0 := by omega
      have kc1 : k ≤ c1 := by omega
      have kc2 : k ≤ c2 := by omega
      go_wp2_with fail
      refine region_tab (by kernel_rfl) (fun W => Below wr.heap.size wr W) [Is (.slice (some ⟨w.heap.size, 0, none⟩) k k), Is (.int .u32 ZD), Is (.slice A0 l0.length c0), Is (.int .i64 k), Is (.slice A0 k c0), Is (.int .u32 ZA), Is (.slice A1 l1.length c1), Is (.int .i64 k), Is (.slice A1 k c1), Is (.int .u32 ZB), Is (.int .u32 (bits .xor .u32 (ZA : Int) (ZB : Int))), Is (.slice A2 l2.length c2), Is (.int .i64 k), Is (.slice A2 k c2), Is (.int .u32 ZC), Is (.int .u32 (bits .xor .u32 (bits .xor .u32 (ZA : Int) (ZB : Int)) (ZC : Int))), Is (.bool true), Is (.bool true), OneB 1, Is (.int .u32 (crcL [1])), OneB 2, Is (.int .u32 (crcL [2])), Is (.bool true), Is (.bool true), Is (.bool true)] (by kernel_rfl) (by kernel_rfl) (Below.refl _ _).drew (by
        repeat (first | exact List.forall_mem_nil _ | refine List.forall_mem_cons.2 ⟨by first | exact stable_is _ | exact stable_oneB _, ?_⟩)) ?_ ?_
      · refine .cons (step_plain rfl fun a W hI hag hd K hK => ?_) ?_
        · have d8 := hag.eval 8 (by kernel_rfl)
          clear hag hd
          go_simp
          exact hK _ _ hI (Below.refl _ _) rfl
        refine .cons (step_plain rfl fun a W hI hag hd K hK => ?_) ?_
        · have d42 : a.tmps.getD 42 undef = _ := hd ⟨0, .data⟩ (by simp) rfl
          clear hag hd
          go_simp
          refine (CD.out _ (rD.below hI)).mono ?_; rintro e w' ⟨rfl, rfl⟩; exact hK _ _ hI (Below.refl _ _) rfl
        refine .cons (step_plain rfl fun a W hI hag hd K hK => ?_) ?_
        · have d0 := hag.eval 0 (by kernel_rfl)
          clear hag hd
          go_simp
          exact hK _ _ hI (Below.refl _ _) rfl
        refine .cons (step_plain rfl fun a W hI hag hd K hK => ?_) ?_
        · have d7 := hag.eval 7 (by kernel_rfl)
          clear hag hd
          go_simp
          exact hK _ _ hI (Below.refl _ _) rfl
        refine .cons (step_plain rfl fun a W hI hag hd K hK => ?_) ?_
        · have d44 : a.tmps.getD 44 undef = _ := hd ⟨2, .data⟩ (by simp) rfl
          have d45 : a.tmps.getD 45 undef = _ := hd ⟨3, .data⟩ (by simp) rfl
          clear hag hd
          go_simp
          exact hK _ _ hI (Below.refl _ _) rfl
        refine .cons (step_plain rfl fun a W hI hag hd K hK => ?_) ?_
        · have d46 : a.tmps.getD 46 undef = _ := hd ⟨4, .data⟩ (by simp) rfl
          clear hag hd
          go_simp
          refine (CA.out _ (rA.below (hI.mono hbel.size))).mono ?_; rintro e w' ⟨rfl, rfl⟩; exact hK _ _ hI (Below.refl _ _) rfl
        refine .cons (step_plain rfl fun a W hI hag hd K hK => ?_) ?_
        · have d1 := hag.eval 1 (by kernel_rfl)
          clear hag hd
          go_simp
          exact hK _ _ hI (Below.refl _ _) rfl
        refine .cons (step_plain rfl fun a W hI hag hd K hK => ?_) ?_
        · have d7 := hag.eval 7 (by kernel_rfl)
          clear hag hd
          go_simp
          exact hK _ _ hI (Below.refl _ _) rfl
        refine .cons (step_plain rfl fun a W hI hag hd K hK => ?_) ?_
        · have d48 : a.tmps.getD 48 undef = _ := hd ⟨6, .data⟩ (by simp) rfl
          have d49 : a.tmps.getD 49 undef = _ := hd ⟨7, .data⟩ (by simp) rfl
          clear hag hd
          go_simp
          exact hK _ _ hI (Below.refl _ _) rfl
        refine .cons (step_plain rfl fun a W hI hag hd K hK => ?_) ?_
        · have d50 : a.tmps.getD 50 undef = _ := hd ⟨8, .data⟩ (by simp) rfl
          clear hag hd
          go_simp
          refine (CB.out _ (rB.below (hI.mono hbel.size))).mono ?_; rintro e w' ⟨rfl, rfl⟩; exact hK _ _ hI (Below.refl _ _) rfl
        refine .cons (step_plain rfl fun a W hI hag hd K hK => ?_) ?_
        · have d47 : a.tmps.getD 47 undef = _ := hd ⟨5, .data⟩ (by simp) rfl
          have d51 : a.tmps.getD 51 undef = _ := hd ⟨9, .data⟩ (by simp) rfl
          clear hag hd
          go_simp
          exact hK _ _ hI (Below.refl _ _) rfl
        refine .cons (step_plain rfl fun a W hI hag hd K hK => ?_) ?_
        · have d2 := hag.eval 2 (by kernel_rfl)
          clear hag hd
          go_simp
          exact hK _ _ hI (Below.refl _ _) rfl
        refine .cons (step_plain rfl fun a W hI hag hd K hK => ?_) ?_
        · have d7 := hag.eval 7 (by kernel_rfl)
          clear hag hd
          go_simp
          exact hK _ _ hI (Below.refl _ _) rfl
        refine .cons (step_plain rfl fun a W hI hag hd K hK => ?_) ?_
        · have d53 : a.tmps.getD 53 undef = _ := hd ⟨11, .data⟩ (by simp) rfl
          have d54 : a.tmps.getD 54 undef = _ := hd ⟨12, .data⟩ (by simp) rfl
          clear hag hd
          go_simp
          exact hK _ _ hI (Below.refl _ _) rfl
        refine .cons (step_plain rfl fun a W hI hag hd K hK => ?_) ?_
        · have d55 : a.tmps.getD 55 undef = _ := hd ⟨13, .data⟩ (by simp) rfl
          clear hag hd
          go_simp
          refine (CC.out _ (rC.below (hI.mono hbel.size))).mono ?_; rintro e w' ⟨rfl, rfl⟩; exact hK _ _ hI (Below.refl _ _) rfl
        refine .cons (step_plain rfl fun a W hI hag hd K hK => ?_) ?_
        · have d52 : a.tmps.getD 52 undef = _ := hd ⟨10, .data⟩ (by simp) rfl
          have d56 : a.tmps.getD 56 undef = _ := hd ⟨14, .data⟩ (by simp) rfl
          clear hag hd
          go_simp
          exact hK _ _ hI (Below.refl _ _) rfl
        refine .cons (step_plain rfl fun a W hI hag hd K hK => ?_) ?_
        · have d43 : a.tmps.getD 43 undef = _ := hd ⟨1, .data⟩ (by simp) rfl
          have d57 : a.tmps.getD 57 undef = _ := hd ⟨15, .data⟩ (by simp) rfl
          clear hag hd
          go_simp
          exact hK _ _ hI (Below.refl _ _) rfl
        refine .cons (step_plain rfl fun a W hI hag hd K hK => ?_) ?_
        · have d58 : a.tmps.getD 58 undef = _ := hd ⟨16, .data⟩ (by simp) rfl
          clear hag hd
          go_simp
          exact hK _ _ hI (Below.refl _ _) rfl
        refine .cons (step_yes (j := 17) rfl (by kernel_rfl) (fun _ _ h => h) fun a W hI hag hd K hK => ?_) ?_
        · clear hag hd
          go_simp
          exact hK _ _ (hI.alloc hI.size _) ((Below.refl _ _).alloc (Nat.le_refl _) _) ⟨W.heap.size, rfl, by simp, by simp [go_sem]⟩
        refine .cons (step_yes (j := 17) rfl (by kernel_rfl) (fun _ _ h => h) fun a W hI hag hd K hK => ?_) ?_
        · obtain ⟨g60, d60, hg60, hc60⟩ : OneB 1 (a.tmps.getD 60 undef) W := hd ⟨18, .data⟩ (by simp) rfl
          clear hag hd
          go_simp
          refine (crc_one g60 1 1 _ hc60 rfl).mono ?_; rintro e w' ⟨rfl, rfl⟩; exact hK _ _ hI (Below.refl _ _) rfl
        refine .cons (step_yes (j := 17) rfl (by kernel_rfl) (fun _ _ h => h) fun a W hI hag hd K hK => ?_) ?_
        · clear hag hd
          go_simp
          exact hK _ _ (hI.alloc hI.size _) ((Below.refl _ _).alloc (Nat.le_refl _) _) ⟨W.heap.size, rfl, by simp, by simp [go_sem]⟩
        refine .cons (step_yes (j := 17) rfl (by kernel_rfl) (fun _ _ h => h) fun a W hI hag hd K hK => ?_) ?_
        · obtain ⟨g62, d62, hg62, hc62⟩ : OneB 2 (a.tmps.getD 62 undef) W := hd ⟨20, .data⟩ (by simp) rfl
          clear hag hd
          go_simp
          refine (crc_one g62 2 2 _ hc62 rfl).mono ?_; rintro e w' ⟨rfl, rfl⟩; exact hK _ _ hI (Below.refl _ _) rfl
        refine .cons (step_yes (j := 17) rfl (by kernel_rfl) (fun _ _ h => h) fun a W hI hag hd K hK => ?_) ?_
        · have d61 : a.tmps.getD 61 undef = _ := hd ⟨19, .data⟩ (by simp) rfl
          have d63 : a.tmps.getD 63 undef = _ := hd ⟨21, .data⟩ (by simp) rfl
          clear hag hd
          go_simp
          exact hK _ _ hI (Below.refl _ _) rfl
        refine .cons (step_plain rfl fun a W hI hag hd K hK => ?_) ?_
        · have d59 : a.tmps.getD 59 undef = _ := hd ⟨17, .data⟩ (by simp) rfl
          have d64 : a.tmps.getD 64 undef = _ := hd ⟨22, .data⟩ (by simp) rfl
          clear hag hd
          go_simp
          exact hK _ _ hI (Below.refl _ _) rfl
        refine .cons (step_plain rfl fun a W hI hag hd K hK => ?_) ?_
        · have d65 : a.tmps.getD 65 undef = _ := hd ⟨23, .data⟩ (by simp) rfl
          clear hag hd
          go_simp
          exact hK _ _ hI (Below.refl _ _) rfl
        exact .nil
      · intro a W hI hag hV
        have d6 : a.tmps.getD 6 undef = .bool true := hV 24 (by simp)
        have hdf : a.defers = [] := hag.defers
        clear hV hag
        go_wp2_with fail
        refine bodyPost_ret (results_tmp rfl _ _ _) hdf ?_
        exact ⟨by rw [d6], hbel.trans (hI.mono hbel.size)⟩
end Go.Proofs.Ytgakkghlphnoaaa
