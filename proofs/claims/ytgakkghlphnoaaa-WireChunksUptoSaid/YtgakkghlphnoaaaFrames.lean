/-
  What oracle.four, frame and Frame answer. Slices are read below new memory.
-/
import Derived.Test.YtgakkghlphnoaaaParts
namespace Go.Proofs.Ytgakkghlphnoaaa
set_option linter.unusedSimpArgs false
set_option linter.unusedVariables false
open Go.RowKit

def byteOf (n : Int) : UInt8 := UInt8.ofNat (n % 256).toNat
theorem byteOf_val (n : Int) : ((byteOf n).toNat : Int) = n % 256 := by
  unfold byteOf
  rw [UInt8.toNat_ofNat']
  omega
def fourL (n : Int) : List UInt8 := [byteOf (n / 16777216), byteOf (n / 65536), byteOf (n / 256), byteOf n]
theorem fourL_len (n : Int) : (fourL n).length = 4 := rfl
theorem four_any (n : Int) (w : World) (hn : I64 n) :
    Calls Try.prog 44 #[.int .i64 n] w fun e w' => e = .returned (.slice (some ⟨w.heap.size, 0, none⟩) 4 4) ∧ w' = w.alloc (.cells (BC (fourL n)) 5) := by
  obtain ⟨h1, h2⟩ := hn
  go_enter Try.func44, Try.ntmps44
  go_wp2_with fail
  go_ret
  refine ⟨rfl, ?_⟩
  have e : BC (fourL n) = #[.int .u8 (n / 16777216 % 256), .int .u8 (n / 65536 % 256), .int .u8 (n / 256 % 256), .int .u8 (n % 256)] := by
    simp [BC, fourL, B8, byteOf_val]
  rw [e]
/-- What a frame of parts is. -/
def partF (p : List UInt8) : List UInt8 := fourL (p.length : Int) ++ p
def frameL (tag : Int) (ls : List (List UInt8)) : List UInt8 := byteOf tag :: byteOf (ls.length : Int) :: ls.flatMap partF
theorem frameL_take (tag : Int) (ls : List (List UInt8)) (k : Nat) (hk : k < ls.length) :
    byteOf tag :: byteOf (ls.length : Int) :: (ls.take (k + 1)).flatMap partF = ((byteOf tag :: byteOf (ls.length : Int) :: (ls.take k).flatMap partF) ++ fourL ((ls[k]).length : Int)) ++ ls[k] := by
  rw [List.take_succ_eq_append_getElem hk, List.flatMap_append]
  simp [partF]
theorem flatMap_take_le (ls : List (List UInt8)) (k : Nat) : ((ls.take k).flatMap partF).length ≤ (ls.flatMap partF).length := by
  conv => rhs; rw [← List.take_append_drop k ls, List.flatMap_append, List.length_append]
  omega
theorem fourB (n : Int) : ∀ u ∈ (fourL n).map B8, u.oneCell' = true := one_B8 _

theorem frame_any (tag : Int) (A : Option Addr) (ls : List (List UInt8)) (c B : Nat) (w : World) (ht : I64 tag) (hr : RdL w B A ls) (hB : B ≤ w.heap.size) (hl : ls.length ≤ c) (hsz : (frameL tag ls).length ≤ 1000000000) :
    Calls Try.prog 37 #[.int .i64 tag, .slice A ls.length c] w fun e w' => ∃ A' c', e = .returned (.slice A' (frameL tag ls).length c') ∧ w'.ownsRow w.heap.size 5 1 (.slice A' (frameL tag ls).length c') (frameL tag ls).length ((frameL tag ls).map B8) ∧ (frameL tag ls).length ≤ c' ∧ c' ≤ maxLen ∧ Below w.heap.size w w' := by
  obtain ⟨ht1, ht2⟩ := ht
  have hls : ls.length ≤ 1000000000 := by
    have : ∀ l : List (List UInt8), l.length ≤ (l.flatMap partF).length := by
      intro l
      induction l with
      | nil => simp
      | cons p l ih => simp only [List.flatMap_cons, List.length_append, List.length_cons, partF, fourL_len]; omega
    have := this ls
    simp only [frameL, List.length_cons] at hsz
    omega
  go_enter Try.func37, Try.ntmps37
  go_wp2_with fail
  go_loopw [5, 16] (fun v i wr => ∃ k A' c', k ≤ ls.length ∧ i = .int .i64 (k : Nat) ∧ v = .slice A' (2 + ((ls.take k).flatMap partF).length) c' ∧
    wr.ownsRow w.heap.size 5 1 (.slice A' (2 + ((ls.take k).flatMap partF).length) c') (2 + ((ls.take k).flatMap partF).length) ((byteOf tag :: byteOf (ls.length : Int) :: (ls.take k).flatMap partF).map B8) ∧ 2 + ((ls.take k).flatMap partF).length ≤ c' ∧ c' ≤ maxLen ∧ Below w.heap.size w wr) (fun _ i _ => ls.length - (intOf i).toNat)
  case atStart =>
    have e : (#[.int .u8 (tag % 256), .int .u8 ((ls.length : Int) % 256)] : Array Value) = BC [byteOf tag, byteOf (ls.length : Int)] := by simp [BC, B8, byteOf_val]
    rw [e]
    refine ⟨0, _, 2, by omega, rfl, rfl, ?_, by simp, by simp [maxLen], (Below.refl _ _).alloc (Nat.le_refl _) _⟩
    exact own_cells w w.heap.size 5 1 2 (BC [byteOf tag, byteOf (ls.length : Int)]) _ (Nat.le_refl _) rfl rfl (by simp [maxLen])
  case round =>
    obtain ⟨k, A', c', hk, rfl, rfl, hown, hkc, hcm, hbel⟩ := hrel
    by_cases hlt : k < ls.length
    · obtain ⟨b, off, A1, c1, rfl, hb, q0, q1, q2, q3⟩ := hr.at_ hlt
      have q4 := (hbel.cell (p := ⟨b, off + k, none⟩) (by show b < _; omega)).trans q0
      clear q0
      have hft := frameL_take tag ls k hlt
      have hle := flatMap_take_le ls (k + 1)
      have hln : ((ls.take (k + 1)).flatMap partF).length = ((ls.take k).flatMap partF).length + 4 + (ls[k]).length := by
        rw [List.take_succ_eq_append_getElem hlt, List.flatMap_append]
        simp [partF, fourL_len]; omega
      simp only [frameL, List.length_cons] at hsz
      have hpl : (ls[k]).length ≤ 1000000000 := by omega
      generalize hX : ((ls.take (k + 1)).flatMap partF).length = nx at *
      generalize ((ls.take k).flatMap partF).length = n at *
      have HX := Lib.hid hX
      have HFT := Lib.hid hft
      have HLN := Lib.hid hln
      have hb1 : n + 4 + (ls[k]).length ≤ 1000000000 := by omega
      generalize ls[k] = p at *
      clear hX hft hln
      go_wp2_with (first
        | (go_at_call 44; refine (four_any _ _ ⟨by omega, by omega⟩).mono ?_; rintro e w' ⟨rfl, rfl⟩)
        | (at_builtin; refine app_own 22 5 _ 1 1 (.tmp 20) (.tmp 23) rfl rfl Try.underlying22 info_u8 rfl (by decide) (w0 := w) (v := .slice A' (2 + n) c') rfl (n := 2 + n) (xs := (byteOf tag :: byteOf (ls.length : Int) :: (ls.take k).flatMap partF).map B8) (hown.alloc _) (hbel.alloc hbel.size _) rfl (m := 4) (reads_cells _ _ (BC (fourL (p.length : Int))) 1 4 _ rfl (by rw [BC_size]; rfl)) (by simpa [BC] using fourB (p.length : Int)) (by omega) (by simp [maxLen]; omega) ?_; intro A3 c3 w3 hown3 hk3 hm3 hbel3 hg3 ho3)
        | (at_builtin; refine app_own 22 5 _ 1 1 (.tmp 24) (.tmp 25) rfl rfl Try.underlying22 info_u8 rfl (by decide) (w0 := w) (v := .slice A3 (2 + n + 4) c3) rfl (n := 2 + n + 4) hown3 hbel3 rfl (m := p.length) (news := p.map B8) (B := B) (q1.below (hbel3.mono hB)) (one_B8 p) (by omega) (by simp [maxLen]; omega) ?_; intro A4 c4 w4 hown4 hk4 hm4 hbel4 hg4 ho4))
      go_roundw
      case rel =>
        have e1 : 2 + ((ls.take (k + 1)).flatMap partF).length = 2 + n + 4 + p.length := by rw [HX.out, HLN.out]; omega
        have e2 : (byteOf tag :: byteOf (ls.length : Int) :: (ls.take (k + 1)).flatMap partF).map B8 = (byteOf tag :: byteOf (ls.length : Int) :: (ls.take k).flatMap partF).map B8 ++ (BC (fourL (p.length : Int))).toList ++ p.map B8 := by
          rw [HFT.out, List.map_append, List.map_append]; simp [BC]
        exact ⟨k + 1, A4, c4, by omega, by go_num, by rw [e1], by rw [e1, e2]; exact hown4, by rw [e1]; exact hk4, hm4, hbel4⟩
      case measure => simp [intOf]; omega
    · obtain rfl : k = ls.length := by omega
      go_wp2_with fail
      go_ret
      rw [List.take_length] at hown hkc
      have e1 : (frameL tag ls).length = 2 + (ls.flatMap partF).length := by simp [frameL]; omega
      refine ⟨A', c', by rw [e1, List.take_length]; rfl, by rw [e1]; exact hown, by rw [e1]; exact hkc, hcm, hbel⟩
theorem frameL_len (tag : Int) (ls : List (List UInt8)) : (frameL tag ls).length = 2 + (ls.flatMap partF).length := by simp [frameL]; omega
theorem Frame_ok (tag : Int) (A : Option Addr) (ls : List (List UInt8)) (c B : Nat) (w : World) (ht : 1 ≤ tag) (ht2 : tag ≤ 9) (hr : RdL w B A ls) (hB : B ≤ w.heap.size) (hl : ls.length ≤ c) (hl8 : ls.length ≤ 8) (hsz : (frameL tag ls).length ≤ 16777216) :
    Calls Try.prog 22 #[.int .i64 tag, .slice A ls.length c] w fun e w' => ∃ A' c', e = .returned (.tuple #[.slice A' (frameL tag ls).length c', .int .i64 0]) ∧ w'.ownsRow w.heap.size 5 1 (.slice A' (frameL tag ls).length c') (frameL tag ls).length ((frameL tag ls).map B8) ∧ (frameL tag ls).length ≤ c' ∧ c' ≤ maxLen ∧ Below w.heap.size w w' := by
  have hfl := frameL_len tag ls
  have HFL := Lib.hid hfl
  have HSZ := Lib.hid hsz
  have hs2 : 2 + (ls.flatMap partF).length ≤ 16777216 := by omega
  clear hfl hsz
  go_enter Try.func22, Try.ntmps22
  go_wp2_with fail
  go_loop [6, 20] (fun v i => ∃ k : Nat, k ≤ ls.length ∧ i = .int .i64 k ∧ v = .int .i64 ((2 + ((ls.take k).flatMap partF).length : Nat) : Int)) (fun _ i => ls.length - (intOf i).toNat)
  case atStart => exact ⟨0, by omega, rfl, rfl⟩
  case round =>
    obtain ⟨k, hk, rfl, rfl⟩ := hrel
    by_cases hlt : k < ls.length
    · obtain ⟨b, off, A1, c1, rfl, hb, q0, q1, q2, q3⟩ := hr.at_ hlt
      have hle := flatMap_take_le ls (k + 1)
      have hln : ((ls.take (k + 1)).flatMap partF).length = ((ls.take k).flatMap partF).length + 4 + (ls[k]).length := by
        rw [List.take_succ_eq_append_getElem hlt, List.flatMap_append]
        simp [partF, fourL_len]; omega
      generalize hX : ((ls.take (k + 1)).flatMap partF).length = nx at *
      generalize ((ls.take k).flatMap partF).length = n at *
      have HX := Lib.hid hX
      have HLN := Lib.hid hln
      have hb1 : n + 4 + (ls[k]).length ≤ 16777216 := by omega
      generalize ls[k] = p at *
      clear hX hln hle hs2
      go_wp2_with fail
      go_round
      case rel => exact ⟨k + 1, by omega, by go_num, by rw [HX.out, HLN.out]; congr 1; omega⟩
      case measure => simp [intOf]; omega
    · obtain rfl : k = ls.length := by omega
      have hs3 : 2 + ((ls.take ls.length).flatMap partF).length ≤ 16777216 := by rw [List.take_length]; exact hs2
      generalize ((ls.take ls.length).flatMap partF).length = n at *
      clear hs2
      go_wp2_with fail
      refine (frame_any tag A ls c B w ⟨by omega, by omega⟩ hr hB hl (by have := HSZ.out; omega)).mono ?_; rintro e w1 ⟨A', c', rfl, hown, hk', hm', hbel⟩
      go_wp2_with fail
      go_ret2
      exact ⟨A', c', rfl, hown, hk', hm', hbel⟩
end Go.Proofs.Ytgakkghlphnoaaa
