/-
  What sum.Crc answers: CRC-32C of the bytes, bit by bit. The bytes are read below the memory that the call makes.
-/
import Derived.Test.YtgakkghlphnoaaaMem
import Derived.Laws.BitsAllLaws
namespace Go.Proofs.Ytgakkghlphnoaaa
set_option linter.unusedSimpArgs false
set_option linter.unusedVariables false
open Go.RowKit

def crcStep (x : Nat) : Nat := if x % 2 = 1 then (x / 2) ^^^ 2197175160 else x / 2
def crcN : Nat → Nat → Nat
  | 0, x => x
  | j + 1, x => crcStep (crcN j x)
def crcByte (c : Nat) (b : UInt8) : Nat := crcN 8 (c ^^^ b.toNat)
def crcL (l : List UInt8) : Nat := 4294967295 ^^^ l.foldl crcByte 4294967295

theorem crcStep_lt (x : Nat) (h : x < 4294967296) : crcStep x < 4294967296 := by
  unfold crcStep
  split
  · exact Nat.xor_lt_two_pow (n := 32) (by omega) (by omega)
  · omega
theorem crcN_lt (j x : Nat) (h : x < 4294967296) : crcN j x < 4294967296 := by
  induction j with
  | zero => exact h
  | succ j ih => exact crcStep_lt _ ih

theorem crcByte_lt (x : Nat) (b : UInt8) (h : x < 4294967296) : crcByte x b < 4294967296 := by
  have := b.toNat_lt
  exact crcN_lt _ _ (Nat.xor_lt_two_pow (n := 32) (by omega) (by omega))
theorem crcF_lt (l : List UInt8) (x : Nat) (h : x < 4294967296) : l.foldl crcByte x < 4294967296 := by
  induction l generalizing x with
  | nil => exact h
  | cons b l ih => exact ih _ (crcByte_lt x b h)

theorem crc_any (A : Option Addr) (l : List UInt8) (c B : Nat) (w : World) (hr : RdB w B A l) (hl : l.length ≤ 140737488355328) :
    Calls Try.prog 15 #[.slice A l.length c] w fun e w' => e = .returned (.int .u32 ((crcL l : Nat) : Int)) ∧ w = w' := by
  go_enter Try.func15, Try.ntmps15
  go_wp2
  go_loop [3, 8] (fun c i => ∃ k : Nat, k ≤ l.length ∧ i = .int .i64 k ∧ c = .int .u32 (((l.take k).foldl crcByte 4294967295 : Nat) : Int)) (fun _ i => l.length - (intOf i).toNat)
  case atStart => exact ⟨0, by omega, rfl, rfl⟩
  case round =>
    obtain ⟨k, hk, rfl, rfl⟩ := hrel
    have hx := crcF_lt (l.take k) 4294967295 (by omega)
    by_cases hlt : k < l.length
    · obtain ⟨b, off, rfl, hb, hc⟩ := hr.at_ hlt
      have hfin : (l.take (k + 1)).foldl crcByte 4294967295 = crcByte ((l.take k).foldl crcByte 4294967295) l[k] := by
        rw [List.take_succ_eq_append_getElem hlt, List.foldl_append]; rfl
      generalize hz : (l.take (k + 1)).foldl crcByte 4294967295 = z at *
      generalize (l.take k).foldl crcByte 4294967295 = x at *
      have hy := l[k].toNat_lt
      generalize hyk : l[k] = y at *
      have HF := Lib.hid hfin
      have HZ := Lib.hid hz
      clear hfin hyk hz
      go_wp2
      go_loop [3, 16] (fun c i => ∃ j : Nat, j ≤ 8 ∧ i = .int .i64 j ∧ c = .int .u32 ((crcN j (x ^^^ y.toNat) : Nat) : Int)) (fun _ i => 8 - (intOf i).toNat)
      case atStart =>
        exact ⟨0, by omega, rfl, by rw [u32_xor_nat _ _ (by omega) (by omega)]; rfl⟩
      case round =>
        obtain ⟨j, hj, rfl, rfl⟩ := hrel
        have hv := crcN_lt j (x ^^^ y.toNat) (Nat.xor_lt_two_pow (n := 32) (by omega) (by omega))
        have hstep : crcN (j + 1) (x ^^^ y.toNat) = crcStep (crcN j (x ^^^ y.toNat)) := rfl
        have HFF : Hid (crcN 8 (x ^^^ y.toNat) = z) := by rw [HF.out]; rfl
        generalize hvv : crcN j (x ^^^ y.toNat) = v at *
        generalize hv2 : crcN (j + 1) (x ^^^ y.toNat) = v2 at *
        have HS := Lib.hid hstep
        have HV := Lib.hid hvv
        have HV2 := Lib.hid hv2
        clear hstep hvv hv2
        by_cases hlt8 : j < 8
        · by_cases hp : v % 2 = 1
          · have ht : (bits BinOp.and IntKind.u32 (v : Int) 1 == 1) = true := by
              have := u32_and_nat v 1 (by omega) (by omega)
              rw [show ((1 : Nat) : Int) = 1 from rfl] at this
              rw [this, nat_mask1, hp]; rfl
            have HR : Hid (bits BinOp.xor IntKind.u32 ((v : Int) / 2) 2197175160 = (v2 : Int)) := by
              have := u32_xor_nat (v / 2) 2197175160 (by omega) (by omega)
              rw [show ((2197175160 : Nat) : Int) = 2197175160 from rfl, show ((v / 2 : Nat) : Int) = (v : Int) / 2 by omega] at this
              show _ = _
              rw [this, HS.out, crcStep, if_pos hp]
            clear hp
            go_wp2
            go_round
            case rel => exact ⟨j + 1, by omega, by go_num, by rw [HR.out, HV2.out]⟩
            case measure => simp [intOf]; omega
          · have ht : (bits BinOp.and IntKind.u32 (v : Int) 1 == 1) = false := by
              have := u32_and_nat v 1 (by omega) (by omega)
              rw [show ((1 : Nat) : Int) = 1 from rfl] at this
              rw [this, nat_mask1, show v % 2 = 0 by omega]; rfl
            have HR : Hid ((v : Int) / 2 = (v2 : Int)) := by
              show _ = _
              rw [HS.out, crcStep, if_neg hp]; omega
            clear hp
            go_wp2
            go_round
            case rel => exact ⟨j + 1, by omega, by go_num, by rw [HR.out, HV2.out]⟩
            case measure => simp [intOf]; omega
        · obtain rfl : j = 8 := by omega
          go_wp2
          go_round
          case rel => exact ⟨k + 1, by omega, by go_num, by rw [← HV.out, HFF.out, HZ.out]⟩
          case measure => simp [intOf]; omega
    · obtain rfl : k = l.length := by omega
      go_wp2
      go_ret
      have e : bits BinOp.xor IntKind.u32 IntKind.u32.max ((l.foldl crcByte 4294967295 : Nat) : Int) = ((crcL l : Nat) : Int) := by
        rw [List.take_length] at hx
        exact u32_xor_nat 4294967295 _ (by omega) hx
      exact ⟨ret_int e, rfl⟩
theorem crc_at (A : Option Addr) (n c : Nat) (l : List UInt8) (B : Nat) (w : World) (hr : RdB w B A l) (hn : l.length = n) (hl : n ≤ 140737488355328) :
    Calls Try.prog 15 #[.slice A n c] w fun e w' => e = .returned (.int .u32 ((crcL l : Nat) : Int)) ∧ w = w' := by
  subst hn
  exact crc_any A l c B w hr hl
theorem crc_one (g : Nat) (b : Int) (u : UInt8) (w : World) (h : w.cell? ⟨g, 0, none⟩ = some (.int .u8 b)) (hu : b = (u.toNat : Int)) :
    Calls Try.prog 15 #[.slice (some ⟨g, 0, none⟩) 1 1] w fun e w' => e = .returned (.int .u32 ((crcL [u] : Nat) : Int)) ∧ w = w' := by
  subst hu
  exact crc_any (some ⟨g, 0, none⟩) [u] 1 (g + 1) w (rdB_one w g u h) (by simp)
theorem crcL_lt (l : List UInt8) : crcL l < 4294967296 :=
  Nat.xor_lt_two_pow (n := 32) (by omega) (crcF_lt l _ (by omega))
end Go.Proofs.Ytgakkghlphnoaaa
