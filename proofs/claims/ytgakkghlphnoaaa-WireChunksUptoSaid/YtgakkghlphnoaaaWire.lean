/-
  What wire.Pack and wire.Feed answer. Conditions: texts of at most 300 bytes, at most 40 of them; bytes that fit together.
-/
import Derived.Test.YtgakkghlphnoaaaTexts
import Derived.Test.YtgakkghlphnoaaaFrameLaw
namespace Go.Proofs.Ytgakkghlphnoaaa
set_option linter.unusedSimpArgs false
set_option linter.unusedVariables false
open Go.RowKit

/-- A text as it is packed. -/
def packT (t : List UInt8) : List UInt8 := byteOf ((t.length : Int) / 256) :: byteOf (t.length : Int) :: t
def packL (ts : List (List UInt8)) : List UInt8 := ts.flatMap packT
theorem packT_len (t : List UInt8) : (packT t).length = 2 + t.length := by simp [packT]; omega
theorem packL_le (ts : List (List UInt8)) (m : Nat) (h : ∀ t ∈ ts, t.length ≤ m) : (packL ts).length ≤ (m + 2) * ts.length := by
  induction ts with
  | nil => simp [packL]
  | cons t ts ih =>
    have h1 := ih (fun x hx => h x (List.mem_cons_of_mem _ hx))
    have h2 := h t List.mem_cons_self
    have e : packL (t :: ts) = packT t ++ packL ts := rfl
    rw [e, List.length_append, packT_len, List.length_cons, Nat.mul_succ]
    omega
theorem packL_take_le (ts : List (List UInt8)) (k : Nat) : (packL (ts.take k)).length ≤ (packL ts).length := by
  conv => rhs; rw [← List.take_append_drop k ts]
  unfold packL
  rw [List.flatMap_append, List.length_append]
  omega

theorem pack_any (A : Option Addr) (ts : List (List UInt8)) (c B : Nat) (w : World) (hr : RdS w B A ts) (hB : B ≤ w.heap.size) (hn : ts.length ≤ 40) (ht : ∀ t ∈ ts, t.length ≤ 300) :
    Calls Try.prog 25 #[.slice A ts.length c] w fun e w' => ∃ A' c', e = .returned (.tuple #[.slice A' (packL ts).length c', .int .i64 0]) ∧ RdB w' w'.heap.size A' (packL ts) ∧ (packL ts).length ≤ c' ∧ c' ≤ maxLen ∧ Below w.heap.size w w' := by
  have htot := packL_le ts 300 ht
  have htot2 : (packL ts).length ≤ 20000 := by omega
  clear htot
  go_enter Try.func25, Try.ntmps25
  go_wp2_with fail
  go_loopw [4, 12] (fun v i wr => ∃ k A' c', k ≤ ts.length ∧ i = .int .i64 (k : Nat) ∧ v = .slice A' (packL (ts.take k)).length c' ∧ wr.ownsRow w.heap.size 5 1 (.slice A' (packL (ts.take k)).length c') (packL (ts.take k)).length ((packL (ts.take k)).map B8) ∧ (packL (ts.take k)).length ≤ c' ∧ c' ≤ maxLen ∧ Below w.heap.size w wr) (fun _ i _ => ts.length - (intOf i).toNat)
  case atStart => exact ⟨0, none, 0, by omega, rfl, rfl, World.ownsRow_nil _ _ _ _, by simp [packL], by simp [maxLen], Below.refl _ _⟩
  case round =>
    obtain ⟨k, A', c', hk, rfl, rfl, hown, hkc, hcm, hbel⟩ := hrel
    by_cases hlt : k < ts.length
    · obtain ⟨b, off, rfl, hb, q0⟩ := (hr.below (hbel.mono hB)).at_ hlt
      have htl := ht _ (List.getElem_mem hlt)
      have hpk : packL (ts.take (k + 1)) = packL (ts.take k) ++ packT ts[k] := by
        unfold packL
        rw [List.take_succ_eq_append_getElem hlt, List.flatMap_append]; simp
      have hle := packL_take_le ts (k + 1)
      rw [hpk, List.length_append, packT_len] at hle
      generalize ts[k] = t at *
      have hsz : (Str t).size = t.length := Str_size t
      have HPK := Lib.hid hpk
      clear hpk
      generalize hX : packL (ts.take k) = X at *
      clear hX
      go_wp2_with (first
        | (at_builtin; refine app_own 22 5 _ 1 1 (.tmp 19) (.tmp 27) rfl rfl Try.underlying22 info_u8 rfl (by decide) (w0 := w) (v := .slice A' X.length c') rfl (n := X.length) (xs := X.map B8) (hown.alloc _) (hbel.alloc hbel.size _) rfl (m := 2) (reads_cells _ _ #[.int .u8 ((t.length : Int) / 256), .int .u8 ((t.length : Int) % 256)] 1 2 _ rfl rfl) (by intro u hu; simp at hu; rcases hu with rfl | rfl <;> rfl) (by omega) (by simp [maxLen]; omega) ?_; intro A3 c3 w3 hown3 hk3 hm3 hbel3 hg3 ho3)
        | (at_builtin; refine app_str 22 9 5 (.tmp 28) (.tmp 29) rfl rfl Try.underlying22 Try.underlying9 info_u8 (w0 := w) (v := .slice A3 (X.length + 2) c3) rfl (n := X.length + 2) hown3 hbel3 rfl (by omega) ?_; intro A4 c4 w4 hown4 hk4 hm4 hbel4))
      go_roundw
      case rel =>
        have e1 : (packL (ts.take (k + 1))).length = X.length + 2 + t.length := by rw [HPK.out, List.length_append, packT_len]; omega
        have e2 : (packL (ts.take (k + 1))).map B8 = X.map B8 ++ [.int .u8 ((t.length : Int) / 256), .int .u8 ((t.length : Int) % 256)] ++ t.map B8 := by
          rw [HPK.out, List.map_append]
          have h2 : (t.length : Int) / 256 % 256 = (t.length : Int) / 256 := by omega
          simp [packT, B8, byteOf_val, h2]
        exact ⟨k + 1, A4, c4, by omega, by go_num, by rw [e1], by rw [e1, e2]; exact hown4, by rw [e1]; exact hk4, hm4, hbel4⟩
      case measure => simp [intOf]; omega
    · obtain rfl : k = ts.length := by omega
      rw [List.take_length] at hown hkc
      go_wp2_with fail
      go_ret2
      rw [List.take_length]
      exact ⟨A', c', rfl, Reads.of_own hown, hkc, hcm, hbel⟩

def be2 (r : List UInt8) : Nat := (r.getD 0 0).toNat * 256 + (r.getD 1 0).toNat
def feedF : Nat → List UInt8 → Option (List (List UInt8) × List UInt8)
  | 0, r => some ([], r)
  | f + 1, r => if r.length < 2 then some ([], r) else if 300 < be2 r then none else if r.length < 2 + be2 r then some ([], r) else
    (feedF f (r.drop (2 + be2 r))).map fun x => ((r.drop 2).take (be2 r) :: x.1, x.2)
theorem feedF_fuel (f g : Nat) (r : List UInt8) (hf : r.length ≤ f) (hg : r.length ≤ g) : feedF f r = feedF g r := by
  induction f generalizing g r with
  | zero =>
    obtain rfl := List.eq_nil_of_length_eq_zero (show r.length = 0 by omega)
    cases g with
    | zero => rfl
    | succ g => simp [feedF]
  | succ f ih =>
    cases g with
    | zero =>
      obtain rfl := List.eq_nil_of_length_eq_zero (show r.length = 0 by omega)
      simp [feedF]
    | succ g =>
      unfold feedF
      by_cases c1 : r.length < 2
      · rw [if_pos c1, if_pos c1]
      · rw [if_neg c1, if_neg c1, ih g (r.drop (2 + be2 r)) (by rw [List.length_drop]; omega) (by rw [List.length_drop]; omega)]
/-- The texts that are whole, and what is held then; none: what is no text. -/
def feedL (r : List UInt8) : Option (List (List UInt8) × List UInt8) := feedF r.length r
theorem feedL_eq (r : List UInt8) : feedL r = if r.length < 2 then some ([], r) else if 300 < be2 r then none else if r.length < 2 + be2 r then some ([], r) else
    (feedL (r.drop (2 + be2 r))).map fun x => ((r.drop 2).take (be2 r) :: x.1, x.2) := by
  unfold feedL
  rw [feedF_fuel r.length (r.length + 1) r (Nat.le_refl _) (by omega)]
  conv => lhs; unfold feedF
  rw [feedF_fuel r.length (r.drop (2 + be2 r)).length (r.drop (2 + be2 r)) (by rw [List.length_drop]; omega) (Nat.le_refl _)]
def lenV : Value → Nat | .slice _ n _ => n | _ => 0
theorem two_bytes {w : World} {B : Nat} {A : Option Addr} {r : List UInt8} (hrd : RdB w B A r) (h4 : 2 ≤ r.length) : ∃ (b off x0 x1 : Nat), A = some ⟨b, off, none⟩ ∧ b < B ∧
    w.cell? ⟨b, off, none⟩ = some (.int .u8 (x0 : Int)) ∧ w.cell? ⟨b, off + 1, none⟩ = some (.int .u8 (x1 : Int)) ∧ x0 < 256 ∧ x1 < 256 ∧ be2 r = x0 * 256 + x1 ∧ be2 r < 65536 := by
  obtain ⟨b, off, rfl, hb, z0⟩ := hrd.at_ (k := 0) (by omega)
  obtain ⟨b', off', e1, _, z1⟩ := hrd.at_ (k := 1) (by omega)
  injection e1 with e1; injection e1 with e1 e2; subst e1 e2
  have y0 : (r[0]).toNat < 256 := (r[0]).toNat_lt
  have y1 : (r[1]).toNat < 256 := (r[1]).toNat_lt
  refine ⟨b, off, (r[0]).toNat, (r[1]).toNat, rfl, hb, z0, z1, y0, y1, ?_⟩
  unfold be2
  rw [getD_at r 0 (by omega), getD_at r 1 (by omega)]
  exact ⟨rfl, by omega⟩
/-- s[lo:hi] -/
theorem mid_rd {w : World} {B : Nat} {A : Option Addr} {l : List UInt8} {c : Nat} (h : RdB w B A l) (lo hi : Nat) (h1 : lo ≤ hi) (hk : hi ≤ l.length) (hc : l.length ≤ c) :
    ∃ A' c', (∀ W : World, (Instr.slice 22 (.slice A l.length c) (some (.int .i64 (lo : Int))) (some (.int .i64 (hi : Int))) none).run Try.prog W = .ok (.slice A' (hi - lo) c') W) ∧ RdB w B A' ((l.drop lo).take (hi - lo)) := by
  have hu := Try.underlying22
  refine ⟨_, c - lo, fun W => ?_, (h.cut (k := lo) (cap := c) (by omega) hc).take (k := hi - lo) (by rw [List.length_drop]; omega)⟩
  simp [go_sem]
  rw [if_pos (show hi ≤ c by omega), if_pos h1]
end Go.Proofs.Ytgakkghlphnoaaa
