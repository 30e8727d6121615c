/-
  A number from 0 on, below another one. No condition.
-/
import Derived.Test.YtfplkakfakdfhaaDoorZB
import Derived.Test.YtfplkakfakdfhaaDoorZM1
import Derived.Test.YtfplkakfakdfhaaDoorZD
import Derived.Test.YtfplkakfakdfhaaDoorZG
import Derived.Laws.Cover4
import Derived.Lib.MapLaws
import Derived.Lib.ValidLaws
namespace Go.Proofs.YtfplkakfakdfhaaDoor
set_option linter.unusedSimpArgs false
set_option linter.unusedVariables false
open Go.RowKit

def Raw.cs (r : Raw) : List D := [iD r.kind, iD r.a, iD r.b, strD r.text]
theorem picked_pc (n : Int) (m : Nat) (hm : 0 < m) (hm2 : m ≤ 4611686018427387904) : PC Tryd.prog 6 [iD n, iD m] (iD (n % m)) := by
  have h1 : n % (m : Int) = if n.tmod m < 0 then n.tmod m + m else n.tmod m := by
    rw [Int.tmod_eq_emod]
    have := Int.emod_nonneg n (show (m : Int) ≠ 0 by omega)
    have := Int.emod_lt_of_pos n (show (0 : Int) < m by omega)
    have : ((m : Int).natAbs : Int) = m := by omega
    split <;> split <;> omega
  have h2 : -(m : Int) < n.tmod m ∧ n.tmod m < m := by
    rw [Int.tmod_eq_emod]
    have := Int.emod_nonneg n (show (m : Int) ≠ 0 by omega)
    have := Int.emod_lt_of_pos n (show (0 : Int) < m by omega)
    have : ((m : Int).natAbs : Int) = m := by omega
    split <;> omega
  refine pc_of_aw Tryd.func6 rfl (by kernel_rfl) mixed (by kernel_rfl) (by rw [Tryd.ntmps6]; exact Nat.le_of_ble_eq_true rfl) Tryd.results6 ?_
  repeat (first | (with_reducible apply aw_seq) | (with_reducible apply aw_reg) | (with_reducible apply rp_nil) | (with_reducible apply ae_norm) | (with_reducible apply aw_ret) | (with_reducible apply re_ret) | (with_reducible apply aw_skip) | ((with_reducible apply be_other); exact rfl) | ((with_reducible apply dr_nil); (first | kernel_rfl | exact rfl)) | ((first | (with_reducible first | apply rp | apply dr) | ((with_reducible first | apply rpG | apply drG); exact rfl; (first | exact gval_t rfl | exact gval_f rfl | exact gval_gt rfl | exact gval_gf rfl); (focus repeat' (first | exact trivial | exact fun h => h | refine And.intro ?_ ?_ | (intro h; (first | exact h | (simp only [Bool.and_eq_true] at h; (first | exact h.1 | exact h.1.1 | exact h.1.1.1 | exact h.2)) | (rw [h]; rfl) | (rw [hgd0, h]; rfl) | simp_all)))); intro hgd; have hgd0 := hgd; (try simp only [decide_eq_true_eq, Bool.and_eq_true, Bool.not_eq_true', beq_iff_eq] at hgd))); first | (exact does_wrem rfl rfl (by omega)) | ((with_reducible apply does_move); (conv => lhs; whnf)) | ((with_reducible apply does_assign); (conv => lhs; whnf)) | ((with_reducible apply does_lt); exact rfl; exact rfl) | ((with_reducible apply does_add); exact rfl; exact rfl; omega; omega)) | ((with_reducible first | apply rp1 | apply dr1); first | (exact does_wrem rfl rfl (by omega))) | ((with_reducible first | apply rp2 | apply dr2); first | (exact does_wrem rfl rfl (by omega))) | ((with_reducible first | apply rpN | apply drN); first | (exact does_wrem rfl rfl (by omega))) | ((first | (with_reducible apply rpGF) | (with_reducible apply drGF)); exact rfl; (first | exact gval_t rfl | exact gval_f rfl | exact gval_gt rfl | exact gval_gf rfl); (first | assumption | decide | exact rfl); (focus repeat' (first | exact trivial | exact fun h => h | refine And.intro ?_ ?_ | (intro h; (first | exact h | (simp only [Bool.and_eq_true] at h; (first | exact h.1 | exact h.1.1 | exact h.1.1.1 | exact h.2)) | (rw [h]; rfl) | (rw [hgd0, h]; rfl) | simp_all))))))
  generalize n.tmod m = x at *
  refine aw_cond rfl (fun hc => ?_) (fun hc => ?_)
  · have hx : x < 0 := by simpa using hc
    repeat (first | (with_reducible apply aw_seq) | (with_reducible apply aw_reg) | (with_reducible apply rp_nil) | (with_reducible apply ae_norm) | (with_reducible apply aw_ret) | (with_reducible apply re_ret) | (with_reducible apply aw_skip) | ((with_reducible apply be_other); exact rfl) | ((with_reducible apply dr_nil); (first | kernel_rfl | exact rfl)) | ((first | (with_reducible first | apply rp | apply dr) | ((with_reducible first | apply rpG | apply drG); exact rfl; (first | exact gval_t rfl | exact gval_f rfl | exact gval_gt rfl | exact gval_gf rfl); (focus repeat' (first | exact trivial | exact fun h => h | refine And.intro ?_ ?_ | (intro h; (first | exact h | (simp only [Bool.and_eq_true] at h; (first | exact h.1 | exact h.1.1 | exact h.1.1.1 | exact h.2)) | (rw [h]; rfl) | (rw [hgd0, h]; rfl) | simp_all)))); intro hgd; have hgd0 := hgd; (try simp only [decide_eq_true_eq, Bool.and_eq_true, Bool.not_eq_true', beq_iff_eq] at hgd))); first | ((with_reducible apply does_move); (conv => lhs; whnf)) | ((with_reducible apply does_assign); (conv => lhs; whnf)) | ((with_reducible apply does_lt); exact rfl; exact rfl) | ((with_reducible apply does_add); exact rfl; exact rfl; omega; omega)) | ((first | (with_reducible apply rpGF) | (with_reducible apply drGF)); exact rfl; (first | exact gval_t rfl | exact gval_f rfl | exact gval_gt rfl | exact gval_gf rfl); (first | assumption | decide | exact rfl); (focus repeat' (first | exact trivial | exact fun h => h | refine And.intro ?_ ?_ | (intro h; (first | exact h | (simp only [Bool.and_eq_true] at h; (first | exact h.1 | exact h.1.1 | exact h.1.1.1 | exact h.2)) | (rw [h]; rfl) | (rw [hgd0, h]; rfl) | simp_all))))))
    (with_reducible apply ret_ok); (focus (repeat' (first | (with_reducible apply rv_nil) | (with_reducible apply rv_cons) | ((with_reducible apply rv_tmp); exact rfl) | ((with_reducible apply rv_cell); exact rfl; exact rfl; exact tyOk rfl; exact rfl; exact rfl) | ((with_reducible apply rv_rowd); exact rfl; exact rfl; exact tyOk rfl; exact rfl; (first | (with_reducible assumption) | exact rfl | ((try simp only [List.length_map]); first | assumption | omega) | (simp; omega))) | ((with_reducible apply rv_row); exact rfl; exact rfl; exact tyOk rfl; exact rfl; (first | exact Nat.le_of_ble_eq_true rfl | omega | (simp; omega)))))); (first | exact rfl | (focus repeat' (first | exact frzVs_one (frzV_map _ _) | exact rfl | (apply frzVs_cons; (first | exact frzV_map _ _ | exact rfl))))); refine SubD.of_eq ?_
    rw [h1, if_pos hx]; rfl
  · have hx : ¬ x < 0 := by simpa using hc
    repeat (first | (with_reducible apply aw_seq) | (with_reducible apply aw_reg) | (with_reducible apply rp_nil) | (with_reducible apply ae_norm) | (with_reducible apply aw_ret) | (with_reducible apply re_ret) | (with_reducible apply aw_skip) | ((with_reducible apply be_other); exact rfl) | ((with_reducible apply dr_nil); (first | kernel_rfl | exact rfl)) | ((first | (with_reducible first | apply rp | apply dr) | ((with_reducible first | apply rpG | apply drG); exact rfl; (first | exact gval_t rfl | exact gval_f rfl | exact gval_gt rfl | exact gval_gf rfl); (focus repeat' (first | exact trivial | exact fun h => h | refine And.intro ?_ ?_ | (intro h; (first | exact h | (simp only [Bool.and_eq_true] at h; (first | exact h.1 | exact h.1.1 | exact h.1.1.1 | exact h.2)) | (rw [h]; rfl) | (rw [hgd0, h]; rfl) | simp_all)))); intro hgd; have hgd0 := hgd; (try simp only [decide_eq_true_eq, Bool.and_eq_true, Bool.not_eq_true', beq_iff_eq] at hgd))); first | ((with_reducible apply does_move); (conv => lhs; whnf)) | ((with_reducible apply does_assign); (conv => lhs; whnf)) | ((with_reducible apply does_lt); exact rfl; exact rfl) | ((with_reducible apply does_add); exact rfl; exact rfl; omega; omega)) | ((first | (with_reducible apply rpGF) | (with_reducible apply drGF)); exact rfl; (first | exact gval_t rfl | exact gval_f rfl | exact gval_gt rfl | exact gval_gf rfl); (first | assumption | decide | exact rfl); (focus repeat' (first | exact trivial | exact fun h => h | refine And.intro ?_ ?_ | (intro h; (first | exact h | (simp only [Bool.and_eq_true] at h; (first | exact h.1 | exact h.1.1 | exact h.1.1.1 | exact h.2)) | (rw [h]; rfl) | (rw [hgd0, h]; rfl) | simp_all))))))
    (with_reducible apply ret_ok); (focus (repeat' (first | (with_reducible apply rv_nil) | (with_reducible apply rv_cons) | ((with_reducible apply rv_tmp); exact rfl) | ((with_reducible apply rv_cell); exact rfl; exact rfl; exact tyOk rfl; exact rfl; exact rfl) | ((with_reducible apply rv_rowd); exact rfl; exact rfl; exact tyOk rfl; exact rfl; (first | (with_reducible assumption) | exact rfl | ((try simp only [List.length_map]); first | assumption | omega) | (simp; omega))) | ((with_reducible apply rv_row); exact rfl; exact rfl; exact tyOk rfl; exact rfl; (first | exact Nat.le_of_ble_eq_true rfl | omega | (simp; omega)))))); (first | exact rfl | (focus repeat' (first | exact frzVs_one (frzV_map _ _) | exact rfl | (apply frzVs_cons; (first | exact frzV_map _ _ | exact rfl))))); refine SubD.of_eq ?_
    rw [h1, if_neg hx]; rfl
theorem picked_nat (n : Int) (m : Nat) (hm : 0 < m) (hm2 : m ≤ 4611686018427387904) : ∃ u : Nat, u < m ∧ PC Tryd.prog 6 [iD n, iD m] (iD u) := by
  have h1 := emod_in n m (by omega)
  refine ⟨(n % m).toNat, by omega, ?_⟩
  have := picked_pc n m hm hm2
  rwa [show (((n % (m : Int)).toNat : Nat) : Int) = n % m by omega]
end Go.Proofs.YtfplkakfakdfhaaDoor


/-
  Floats of 64 bits that are numbers stand as their rungs stand. Plain laws, no program in sight.
-/
namespace Go.Proofs.YtfplkakfakdfhaaDoor
set_option linter.unusedSimpArgs false
set_option linter.unusedVariables false

/-- The rung, and the number on it in units of the least place. -/
def rung (b : Nat) : Nat := b % 9223372036854775808
def sgnF (b : Nat) : Bool := b / 9223372036854775808 % 2 == 1
def magF (r : Nat) : Nat := if r < 4503599627370496 then r else 4503599627370496 + r % 4503599627370496
def expF (r : Nat) : Nat := if r < 4503599627370496 then 0 else r / 4503599627370496 - 1
def valN (r : Nat) : Nat := magF r * 2 ^ expF r
def finF (b : Nat) : Prop := rung b < 9218868437227405312
theorem valN_mono {r s : Nat} (h : r < s) : valN r < valN s := by
  have p1 := Nat.two_pow_pos (expF r)
  have p2 := Nat.two_pow_pos (expF s)
  unfold valN
  by_cases hr : r < 4503599627370496
  · have e1 : magF r = r := by unfold magF; rw [if_pos hr]
    have e2 : expF r = 0 := by unfold expF; rw [if_pos hr]
    rw [e1, e2, Nat.pow_zero, Nat.mul_one]
    by_cases hs : s < 4503599627370496
    · have e3 : magF s = s := by unfold magF; rw [if_pos hs]
      have e4 : expF s = 0 := by unfold expF; rw [if_pos hs]
      rw [e3, e4, Nat.pow_zero, Nat.mul_one]
      exact h
    · have e3 : 4503599627370496 ≤ magF s := by unfold magF; rw [if_neg hs]; omega
      calc r < 4503599627370496 := hr
        _ ≤ magF s := e3
        _ ≤ magF s * 2 ^ expF s := Nat.le_mul_of_pos_right _ p2
  · have hs : ¬ s < 4503599627370496 := by omega
    have e1 : magF r = 4503599627370496 + r % 4503599627370496 := by unfold magF; rw [if_neg hr]
    have e2 : expF r = r / 4503599627370496 - 1 := by unfold expF; rw [if_neg hr]
    have e3 : magF s = 4503599627370496 + s % 4503599627370496 := by unfold magF; rw [if_neg hs]
    have e4 : expF s = s / 4503599627370496 - 1 := by unfold expF; rw [if_neg hs]
    by_cases hq : r / 4503599627370496 = s / 4503599627370496
    · have : expF r = expF s := by rw [e2, e4, hq]
      rw [this]
      exact Nat.mul_lt_mul_of_pos_right (by rw [e1, e3]; omega) p2
    · have hlt : r / 4503599627370496 < s / 4503599627370496 := by omega
      have h1 : 1 ≤ r / 4503599627370496 := by omega
      have hexp : expF r + 1 ≤ expF s := by rw [e2, e4]; omega
      have hpow : 2 ^ (expF r + 1) ≤ 2 ^ expF s := Nat.pow_le_pow_right (by omega) hexp
      have hm1 : magF r < 4503599627370496 * 2 := by rw [e1]; omega
      have hm2 : 4503599627370496 ≤ magF s := by rw [e3]; omega
      calc magF r * 2 ^ expF r < 4503599627370496 * 2 * 2 ^ expF r := Nat.mul_lt_mul_of_pos_right hm1 p1
        _ = 4503599627370496 * 2 ^ (expF r + 1) := by rw [Nat.pow_succ, Nat.mul_assoc, Nat.mul_comm 2]
        _ ≤ 4503599627370496 * 2 ^ expF s := Nat.mul_le_mul_left _ hpow
        _ ≤ magF s * 2 ^ expF s := Nat.mul_le_mul_right _ hm2
theorem valN_lt {r s : Nat} : valN r < valN s ↔ r < s := by
  constructor
  · intro h
    rcases Nat.lt_trichotomy r s with h1 | h1 | h1
    · exact h1
    · subst h1; exact absurd h (Nat.lt_irrefl _)
    · have := valN_mono h1; omega
  · exact valN_mono
theorem valN_zero : valN 0 = 0 := rfl
/-- The number that a word stands for, in units of the least place. -/
def keyF (b : Nat) : Int := if sgnF b = true then -(valN (rung b) : Int) else (valN (rung b) : Int)
theorem read_of {b : Nat} (h : finF b) : FloatKind.f64.format.read b = .number (sgnF b) (magF (rung b)) (-1074 + (expF (rung b) : Int)) := by
  have e1 : FloatKind.f64.format = Ieee.double := rfl
  have e2 : Ieee.double.signWeight = 9223372036854775808 := rfl
  have e3 : Ieee.double.binade = 4503599627370496 := rfl
  have e4 : Ieee.double.infRung = 9218868437227405312 := rfl
  have e5 : Ieee.double.leastPlace = -1074 := rfl
  unfold finF rung at h
  unfold Ieee.Format.read
  rw [e1]
  simp only [e2, e3, e4, e5]
  unfold magF expF rung sgnF
  by_cases h1 : b % 9223372036854775808 < 4503599627370496
  · rw [if_pos h1, if_pos h1, if_pos h1]
    simp
  · rw [if_neg h1, if_pos h, if_neg h1, if_neg h1]
theorem cmp_scale {a b : Int} {k : Nat} (hk : 0 < k) : compare (a * (k : Int)) (b * (k : Int)) = compare a b := by
  have hk2 : (0 : Int) < (k : Int) := by omega
  rcases Int.lt_trichotomy a b with h | h | h
  · have : a * (k : Int) < b * (k : Int) := Int.mul_lt_mul_of_pos_right h hk2
    simp only [compare, compareOfLessAndEq, if_pos h, if_pos this]
  · subst h; simp [compare, compareOfLessAndEq]
  · have : b * (k : Int) < a * (k : Int) := Int.mul_lt_mul_of_pos_right h hk2
    simp only [compare, compareOfLessAndEq, if_neg (show ¬ a < b by omega), if_neg (show ¬ a * (k : Int) < b * (k : Int) by omega), if_neg (show ¬ a = b by omega), if_neg (show ¬ a * (k : Int) = b * (k : Int) by omega)]
theorem order_key {a b : Nat} (ha : finF a) (hb : finF b) : FloatKind.f64.format.order a b = some (compare (keyF a) (keyF b)) := by
  unfold Ieee.Format.order
  rw [read_of ha, read_of hb]
  unfold Ieee.Datum.order
  dsimp only
  obtain ⟨x, hx⟩ : ∃ x, expF (rung a) = x := ⟨_, rfl⟩
  obtain ⟨y, hy⟩ : ∃ y, expF (rung b) = y := ⟨_, rfl⟩
  rw [hx, hy]
  congr 1
  have key : ∀ (s : Bool) (m d k : Nat), Ieee.signed s m d * ((2 ^ k : Nat) : Int) = if s = true then -((m * 2 ^ (d + k) : Nat) : Int) else ((m * 2 ^ (d + k) : Nat) : Int) := by
    intro s m d k
    unfold Ieee.signed
    have e : m * 2 ^ (d + k) = (m <<< d) * 2 ^ k := by rw [Nat.shiftLeft_eq, Nat.pow_add, Nat.mul_assoc]
    rw [e]
    cases s
    · simp
    · simp [Int.neg_mul]
  obtain ⟨k, hk⟩ : ∃ k, min x y = k := ⟨_, rfl⟩
  have d1 : ((-1074 + (x : Int)) - min (-1074 + (x : Int)) (-1074 + (y : Int))).toNat = x - k := by omega
  have d2 : ((-1074 + (y : Int)) - min (-1074 + (x : Int)) (-1074 + (y : Int))).toNat = y - k := by omega
  rw [d1, d2, ← cmp_scale (k := 2 ^ k) (Nat.two_pow_pos k), key, key, show x - k + k = x by omega, show y - k + k = y by omega]
  unfold keyF valN
  rw [hx, hy]
theorem keyF_inj {a b : Nat} (ha : a < 18446744073709551616) (hb : b < 18446744073709551616) (za : a ≠ 9223372036854775808) (zb : b ≠ 9223372036854775808) (h : keyF a = keyF b) : a = b := by
  have inj : ∀ r s, valN r = valN s → r = s := fun r s h => by
    rcases Nat.lt_trichotomy r s with h1 | h1 | h1
    · have := valN_mono h1; omega
    · exact h1
    · have := valN_mono h1; omega
  have pos : ∀ r, valN r = 0 → r = 0 := fun r h => inj r 0 (h.trans valN_zero.symm)
  unfold keyF at h
  have sa : sgnF a = true ↔ 9223372036854775808 ≤ a := by unfold sgnF; simp; omega
  have sb : sgnF b = true ↔ 9223372036854775808 ≤ b := by unfold sgnF; simp; omega
  have ra : a = rung a + (if sgnF a = true then 9223372036854775808 else 0) := by
    unfold rung
    split
    · rename_i h1; have := sa.1 h1; omega
    · rename_i h1; have : ¬ 9223372036854775808 ≤ a := fun h2 => h1 (sa.2 h2); omega
  have rb : b = rung b + (if sgnF b = true then 9223372036854775808 else 0) := by
    unfold rung
    split
    · rename_i h1; have := sb.1 h1; omega
    · rename_i h1; have : ¬ 9223372036854775808 ≤ b := fun h2 => h1 (sb.2 h2); omega
  by_cases h1 : sgnF a = true <;> by_cases h2 : sgnF b = true
  · rw [if_pos h1, if_pos h2] at h
    have := inj (rung a) (rung b) (by omega)
    rw [if_pos h1] at ra
    rw [if_pos h2] at rb
    omega
  · rw [if_pos h1, if_neg h2] at h
    have := pos (rung a) (by omega)
    rw [if_pos h1] at ra
    omega
  · rw [if_neg h1, if_pos h2] at h
    have := pos (rung b) (by omega)
    rw [if_pos h2] at rb
    omega
  · rw [if_neg h1, if_neg h2] at h
    have := inj (rung a) (rung b) (by omega)
    rw [if_neg h1] at ra
    rw [if_neg h2] at rb
    omega
theorem fltV_lss {a b : Nat} (ha : finF a) (hb : finF b) : fltV .lss a b = decide (keyF a < keyF b) := by
  unfold fltV
  rw [order_key ha hb]
  rcases Int.lt_trichotomy (keyF a) (keyF b) with h | h | h
  · simp [compare, compareOfLessAndEq, h]
  · simp [compare, compareOfLessAndEq, h]
  · simp [compare, compareOfLessAndEq, show ¬ keyF a < keyF b by omega, show ¬ keyF a = keyF b by omega]
theorem fltV_gtr {a b : Nat} (ha : finF a) (hb : finF b) : fltV .gtr a b = decide (keyF a > keyF b) := by
  unfold fltV
  rw [order_key ha hb]
  rcases Int.lt_trichotomy (keyF a) (keyF b) with h | h | h
  · simp [compare, compareOfLessAndEq, h, show ¬ keyF b < keyF a by omega]
  · simp [compare, compareOfLessAndEq, h]
  · simp [compare, compareOfLessAndEq, show ¬ keyF a < keyF b by omega, show ¬ keyF a = keyF b by omega, h]
theorem fltV_self {a : Nat} (ha : finF a) : fltV .neq a a = false := by
  unfold fltV
  rw [order_key ha ha]
  simp [compare, compareOfLessAndEq]
end Go.Proofs.YtfplkakfakdfhaaDoor


/-
  chirographkeep.clean: the words of a text that may be, at most so many bytes. No condition but the size.
-/
namespace Go.Proofs.YtfplkakfakdfhaaDoor
set_option linter.unusedSimpArgs false
set_option linter.unusedVariables false
open Go.RowKit

def cleanF (s : ByteArray) (most : Nat) : Nat → Nat → ByteArray → ByteArray
  | 0, _, out => out
  | f + 1, pos, out => if pos < s.size then (if most < out.size + 4 then out else cleanF s most f (pos + (Utf8.decode s pos).2) (out ++ Utf8.encode ((Utf8.decode s pos).1 : Nat))) else out
def cleanT (s : ByteArray) (most : Nat) : ByteArray := cleanF s most (s.size + 1) 0 ByteArray.empty
theorem decode_w (s : ByteArray) (pos : Nat) : 1 ≤ (Utf8.decode s pos).2 := by
  simp only [Utf8.decode]
  repeat' split
  all_goals simp
theorem cleanF_size (s : ByteArray) (most : Nat) : ∀ (f pos : Nat) (out : ByteArray), out.size ≤ most → (cleanF s most f pos out).size ≤ most
  | 0, _, out, h => h
  | f + 1, pos, out, h => by
    unfold cleanF
    split
    · split
      · exact h
      · refine cleanF_size s most f _ _ ?_
        have := encode_size_le ((Utf8.decode s pos).1 : Nat)
        rw [ByteArray.size_append]
        omega
    · exact h
theorem cleanT_size (s : ByteArray) (most : Nat) : (cleanT s most).size ≤ most := cleanF_size s most _ _ _ (Nat.zero_le _)
theorem cleanF_fuel (s : ByteArray) (most : Nat) : ∀ (f g pos : Nat) (out : ByteArray), s.size ≤ pos + f → s.size ≤ pos + g → cleanF s most f pos out = cleanF s most g pos out
  | 0, 0, _, _, _, _ => rfl
  | 0, g + 1, pos, out, h, _ => by unfold cleanF; rw [if_neg (by omega)]
  | f + 1, 0, pos, out, _, h => by unfold cleanF; rw [if_neg (by omega)]
  | f + 1, g + 1, pos, out, h1, h2 => by
    have := decode_w s pos
    unfold cleanF
    split
    · split
      · rfl
      · exact cleanF_fuel s most f g _ _ (by omega) (by omega)
    · rfl
set_option maxHeartbeats 1000000 in
theorem clean_pc (s : ByteArray) (most : Nat) (hm : most ≤ 1000000) : PC Tryd.prog 34 [strD s, iD most] (strD (cleanT s most)) := by
  refine pc_of_aw Tryd.func34 rfl (by kernel_rfl) mixed (by kernel_rfl) (by rw [Tryd.ntmps34]; exact Nat.le_of_ble_eq_true rfl) Tryd.results34 ?_
  repeat (first | (with_reducible first | apply aw_seq | apply aw_reg | apply rp_nil | apply ae_norm | apply aw_block) | ((with_reducible apply rp); first | ((with_reducible apply does_move); (conv => lhs; whnf)) | ((with_reducible apply does_assign); (conv => lhs; whnf))) | ((with_reducible apply rp1); (exact does_range (tyOk rfl) rfl rfl rfl)))
  refine aw_loop (fun m st => ∃ pos out, m = s.size + 1 - pos ∧ out.size ≤ most ∧ cleanF s most (s.size + 1 - pos) pos out = cleanT s most ∧ st = ⟨[(0, .d (strD s)), (1, .d (iD most)), (5, .d (strD out)), (9, .px 9 0)], [(9, .itr s pos)]⟩) _ _ ?_ ⟨0, ByteArray.empty, rfl, Nat.zero_le _, rfl, rfl⟩ ?_
  · refine forget_of [] (by repeat' (first | exact ks_nil | (refine ks_cons rfl (by exact SubA.refl _) ?_))) (by repeat' (first | exact trivial | exact rfl | refine And.intro ?_ ?_)) rfl (by repeat' (first | exact trivial | exact inB_px rfl | refine And.intro ?_ ?_)) (by repeat' (first | exact trivial | exact inB_px rfl | refine And.intro ?_ ?_))
  · rintro m st ⟨pos, out, rfl, h1, h2, rfl⟩
    by_cases hp : pos < s.size
    · obtain ⟨f, hf⟩ : ∃ f, s.size + 1 - pos = f + 1 := ⟨s.size - pos, by omega⟩
      have hw := decode_w s pos
      have he := encode_size_le ((Utf8.decode s pos).1 : Nat)
      rw [hf, cleanF, if_pos hp] at h2
      have hfc : ∀ out2, cleanF s most f (pos + (Utf8.decode s pos).2) out2 = cleanF s most (s.size + 1 - (pos + (Utf8.decode s pos).2)) (pos + (Utf8.decode s pos).2) out2 := fun out2 => cleanF_fuel s most _ _ _ _ (by omega) (by omega)
      rw [hfc] at h2
      have hd := fun (P : Program) (dst : Option Nat) (ty : TypeId) (x : Operand) (e : Operand → A) (β : Bx) id (hx : e x = .px id 0) (hl : look id β = some (.itr s pos)) => does_next (P := P) (dst := dst) (ty := ty) hx hl hp
      generalize (Utf8.decode s pos).1 = c at *
      generalize (Utf8.decode s pos).2 = wd at *
      repeat (first | (with_reducible first | apply aw_seq | apply aw_reg | apply rp_nil | apply ae_norm) | ((with_reducible apply rp); ((with_reducible apply does_extract); exact rfl; exact rfl)) | ((with_reducible apply rp1); (exact hd _ _ _ _ _ _ _ rfl rfl)))
      refine aw_cond rfl (fun _ => ?_) (fun h => (by cases h))
      repeat (first | (with_reducible first | apply aw_seq | apply aw_reg | apply rp_nil | apply ae_norm | apply aw_block | apply aw_skip) | ((with_reducible apply rp); first | (exact does_add_to (z := ((out.size + 4 : Nat) : Int)) rfl rfl (by omega) (by omega) (by omega)) | ((with_reducible apply does_move); (conv => lhs; whnf)) | ((with_reducible apply does_assign); (conv => lhs; whnf)) | ((with_reducible apply does_gt); exact rfl; exact rfl) | ((with_reducible apply does_extract); exact rfl; exact rfl) | ((with_reducible apply does_len_str); exact tyOk rfl; exact rfl; exact rfl)))
      refine aw_cond rfl (fun hc => ?_) (fun hc => ?_)
      · have hlt : most < out.size + 4 := by simp at hc; omega
        rw [if_pos hlt] at h2
        repeat (first | (with_reducible first | apply aw_seq | apply aw_reg | apply rp_nil | apply ae_norm | apply aw_exit | apply ae_exit | apply be_exit | apply aw_ret | apply re_ret) | ((with_reducible apply be_other); exact rfl) | ((with_reducible apply rp); first | ((with_reducible apply does_move); (conv => lhs; whnf)) | ((with_reducible apply does_assign); (conv => lhs; whnf))))
        (with_reducible apply ret_ok); (focus (repeat' (first | (with_reducible apply rv_nil) | (with_reducible apply rv_cons) | ((with_reducible apply rv_tmp); exact rfl)))); exact rfl; refine SubD.of_eq ?_
        rw [h2]; rfl
      · have hlt : ¬ most < out.size + 4 := by simp at hc; omega
        rw [if_neg hlt] at h2
        repeat (first | (with_reducible first | apply aw_reg | apply rp_nil | apply ae_norm | apply be_norm | apply aw_skip) | ((with_reducible apply rp); first | (exact does_conv_rune (tyOk rfl) (tyOk rfl) rfl rfl) | (exact does_cat rfl rfl (by omega)) | ((with_reducible apply does_move); (conv => lhs; whnf)) | ((with_reducible apply does_assign); (conv => lhs; whnf))))
        refine ⟨_, _, ?_, ?_, pos + wd, out ++ Utf8.encode (c : Nat), rfl, by rw [ByteArray.size_append]; omega, h2, rfl⟩
        · omega
        · refine forget_of [] (by repeat' (first | exact ks_nil | (refine ks_cons rfl (by exact SubA.refl _) ?_))) (by repeat' (first | exact trivial | exact rfl | refine And.intro ?_ ?_)) rfl (by repeat' (first | exact trivial | exact inB_px rfl | refine And.intro ?_ ?_)) (by repeat' (first | exact trivial | exact inB_px rfl | refine And.intro ?_ ?_))
    · have h3 : out = cleanT s most := by
        rw [← h2]
        cases s.size + 1 - pos with
        | zero => rfl
        | succ f => unfold cleanF; rw [if_neg hp]
      repeat (first | (with_reducible first | apply aw_seq | apply aw_reg | apply rp_nil | apply ae_norm) | ((with_reducible apply rp); first | (exact does_next_end rfl rfl (by omega)) | ((with_reducible apply does_extract); exact rfl; exact rfl)))
      refine aw_cond rfl (fun h => (by cases h)) (fun _ => ?_)
      repeat (first | (with_reducible first | apply aw_seq | apply aw_reg | apply rp_nil | apply ae_norm | apply aw_exit | apply ae_exit | apply be_exit | apply aw_ret | apply re_ret) | ((with_reducible apply rp); first | ((with_reducible apply does_move); (conv => lhs; whnf)) | ((with_reducible apply does_assign); (conv => lhs; whnf))))
      (with_reducible apply ret_ok); (focus (repeat' (first | (with_reducible apply rv_nil) | (with_reducible apply rv_cons) | ((with_reducible apply rv_tmp); exact rfl)))); exact rfl; refine SubD.of_eq ?_
      rw [h3]; rfl
end Go.Proofs.YtfplkakfakdfhaaDoor


/-
  A text that is put together out of runes is valid. Plain laws, no program in sight.
-/
namespace Go.Proofs.YtfplkakfakdfhaaDoor
set_option linter.unusedSimpArgs false
set_option linter.unusedVariables false
open Go.Lib

theorem decN_app {n n' b0 b1 b2 b3 c1 c2 c3 : Nat} (h : n ≤ n') (h1 : 1 < n → c1 = b1) (h2 : 2 < n → c2 = b2) (h3 : 3 < n → c3 = b3) (hv : ¬ ((decodeN n b0 b1 b2 b3).1 = 65533 ∧ (decodeN n b0 b1 b2 b3).2 = 1)) : decodeN n' b0 c1 c2 c3 = decodeN n b0 b1 b2 b3 := by
  by_cases e0 : b0 < 128
  · simp only [decodeN, if_pos e0]
  by_cases e2 : b0 / 32 = 6
  · by_cases c : 1 < n ∧ b1 / 64 = 2
    · have q := h1 c.1
      subst q
      have c' : 1 < n' ∧ c1 / 64 = 2 := ⟨by omega, c.2⟩
      simp only [decodeN, if_neg e0, if_pos (And.intro e2 c), if_pos (And.intro e2 c')]
    · exfalso
      apply hv
      have n3 : ¬ b0 / 16 = 14 := by omega
      have n4 : ¬ b0 / 8 = 30 := by omega
      simp only [decodeN, if_neg e0, if_neg (show ¬ (b0 / 32 = 6 ∧ 1 < n ∧ b1 / 64 = 2) from fun x => c x.2), if_neg (show ¬ (b0 / 16 = 14 ∧ (1 < n ∧ b1 / 64 = 2) ∧ 2 < n ∧ b2 / 64 = 2) from fun x => n3 x.1), if_neg (show ¬ (b0 / 8 = 30 ∧ (1 < n ∧ b1 / 64 = 2) ∧ (2 < n ∧ b2 / 64 = 2) ∧ 3 < n ∧ b3 / 64 = 2) from fun x => n4 x.1), and_self]
  have m2 : ∀ k c, ¬ (b0 / 32 = 6 ∧ 1 < k ∧ c / 64 = 2) := fun k c x => e2 x.1
  by_cases e3 : b0 / 16 = 14
  · have n4 : ¬ b0 / 8 = 30 := by omega
    by_cases c : (1 < n ∧ b1 / 64 = 2) ∧ (2 < n ∧ b2 / 64 = 2)
    · have q := h1 c.1.1
      have q2 := h2 c.2.1
      subst q q2
      have c' : (1 < n' ∧ c1 / 64 = 2) ∧ (2 < n' ∧ c2 / 64 = 2) := ⟨⟨by omega, c.1.2⟩, by omega, c.2.2⟩
      simp only [decodeN, if_neg e0, if_neg (m2 _ _), if_pos (And.intro e3 c), if_pos (And.intro e3 c')]
    · exfalso
      apply hv
      simp only [decodeN, if_neg e0, if_neg (m2 _ _), if_neg (show ¬ (b0 / 16 = 14 ∧ (1 < n ∧ b1 / 64 = 2) ∧ 2 < n ∧ b2 / 64 = 2) from fun x => c x.2), if_neg (show ¬ (b0 / 8 = 30 ∧ (1 < n ∧ b1 / 64 = 2) ∧ (2 < n ∧ b2 / 64 = 2) ∧ 3 < n ∧ b3 / 64 = 2) from fun x => n4 x.1), and_self]
  have m3 : ∀ k c d, ¬ (b0 / 16 = 14 ∧ (1 < k ∧ c / 64 = 2) ∧ 2 < k ∧ d / 64 = 2) := fun k c d x => e3 x.1
  by_cases e4 : b0 / 8 = 30
  · by_cases c : (1 < n ∧ b1 / 64 = 2) ∧ (2 < n ∧ b2 / 64 = 2) ∧ (3 < n ∧ b3 / 64 = 2)
    · have q := h1 c.1.1
      have q2 := h2 c.2.1.1
      have q3 := h3 c.2.2.1
      subst q q2 q3
      have c' : (1 < n' ∧ c1 / 64 = 2) ∧ (2 < n' ∧ c2 / 64 = 2) ∧ (3 < n' ∧ c3 / 64 = 2) := ⟨⟨by omega, c.1.2⟩, ⟨by omega, c.2.1.2⟩, by omega, c.2.2.2⟩
      simp only [decodeN, if_neg e0, if_neg (m2 _ _), if_neg (m3 _ _ _), if_pos (And.intro e4 c), if_pos (And.intro e4 c')]
    · exfalso
      apply hv
      simp only [decodeN, if_neg e0, if_neg (m2 _ _), if_neg (m3 _ _ _), if_neg (show ¬ (b0 / 8 = 30 ∧ (1 < n ∧ b1 / 64 = 2) ∧ (2 < n ∧ b2 / 64 = 2) ∧ 3 < n ∧ b3 / 64 = 2) from fun x => c x.2), and_self]
  · exfalso
    apply hv
    simp only [decodeN, if_neg e0, if_neg (m2 _ _), if_neg (m3 _ _ _), if_neg (show ¬ (b0 / 8 = 30 ∧ (1 < n ∧ b1 / 64 = 2) ∧ (2 < n ∧ b2 / 64 = 2) ∧ 3 < n ∧ b3 / 64 = 2) from fun x => e4 x.1), and_self]
theorem getD_app {l m : List UInt8} {k : Nat} (h : k < l.length) : (l ++ m).getD k 0 = l.getD k 0 := by
  rw [List.getD_eq_getElem?_getD, List.getD_eq_getElem?_getD, List.getElem?_append_left h]
theorem dec_app {l m : List UInt8} (hne : l ≠ []) (hv : ¬ ((decodeL l).1 = 65533 ∧ (decodeL l).2 = 1)) : decodeL (l ++ m) = decodeL l := by
  have hl : 0 < l.length := List.length_pos_iff.2 hne
  rw [decodeL_N] at hv ⊢
  rw [decodeL_N l, getD_app hl]
  exact decN_app (by rw [List.length_append]; omega) (fun h => by rw [getD_app h]) (fun h => by rw [getD_app h]) (fun h => by rw [getD_app h]) hv
theorem valid_app : ∀ (n : Nat) (a b : List UInt8), a.length ≤ n → validD a = true → validD b = true → validD (a ++ b) = true
  | 0, a, b, h, _, hb => by
    have : a = [] := List.length_eq_zero_iff.1 (by omega)
    subst this; exact hb
  | n + 1, a, b, h, ha, hb => by
    by_cases hne : a = []
    · subst hne; exact hb
    · rw [validD_step a hne] at ha
      split at ha
      · cases ha
      · rename_i hv
        have hw := decodeL_width a
        have hle := decodeL_le a hne
        rw [validD_step (a ++ b) (by simp [hne]), dec_app hne hv, if_neg hv, List.drop_append_of_le_length hle]
        exact valid_app n _ b (by rw [List.length_drop]; omega) ha hb
theorem valid_one {l : List UInt8} {c : Nat} (hne : l ≠ []) (h : decodeL l = (c, l.length)) (h2 : ¬ (c = 65533 ∧ l.length = 1)) : validD l = true := by
  rw [validD_step l hne, h, if_neg h2]
  show validD (l.drop l.length) = true
  rw [List.drop_length]; rfl
theorem valid_enc (r : Int) : validD (Utf8.encode r).data.toList = true := by
  unfold Utf8.encode
  dsimp only
  obtain ⟨c, hc⟩ : ∃ c, (if Utf8.valid r = true then r.toNat else Utf8.runeError) = c := ⟨_, rfl⟩
  rw [hc]
  have hcv : c < 55296 ∨ (57344 ≤ c ∧ c ≤ 1114111) := by
    rw [← hc]
    split
    · rename_i h
      simp only [Utf8.valid, Bool.or_eq_true, Bool.and_eq_true, decide_eq_true_eq] at h
      omega
    · right; decide
  have m : ∀ n, n < 256 → (UInt8.ofNat n).toNat = n := fun n h => by rw [UInt8.toNat_ofNat']; omega
  by_cases h1 : c < 128
  · rw [if_pos h1]
    show validD [UInt8.ofNat c] = true
    rw [validD_cons _ _ (by rw [m c (by omega)]; exact h1)]; rfl
  rw [if_neg h1]
  by_cases h2 : c < 2048
  · rw [if_pos h2]
    show validD [UInt8.ofNat (192 + c / 64), UInt8.ofNat (128 + c % 64)] = true
    refine valid_one (c := c) (by simp) ?_ (by simp)
    rw [decodeL_N]
    show decodeN 2 (UInt8.ofNat (192 + c / 64)).toNat (UInt8.ofNat (128 + c % 64)).toNat 0 0 = (c, 2)
    rw [m _ (by omega), m _ (by omega)]
    unfold decodeN
    rw [if_neg (by omega), if_pos ⟨by omega, by omega, by omega⟩, if_pos (by omega)]
    congr 1; omega
  rw [if_neg h2]
  by_cases h3 : c < 65536
  · rw [if_pos h3]
    show validD [UInt8.ofNat (224 + c / 4096), UInt8.ofNat (128 + c / 64 % 64), UInt8.ofNat (128 + c % 64)] = true
    refine valid_one (c := c) (by simp) ?_ (by simp)
    rw [decodeL_N]
    show decodeN 3 (UInt8.ofNat (224 + c / 4096)).toNat (UInt8.ofNat (128 + c / 64 % 64)).toNat (UInt8.ofNat (128 + c % 64)).toNat 0 = (c, 3)
    rw [m _ (by omega), m _ (by omega), m _ (by omega)]
    unfold decodeN
    rw [if_neg (by omega), if_neg (by omega), if_pos ⟨by omega, ⟨by omega, by omega⟩, by omega, by omega⟩, if_pos (by omega)]
    congr 1; omega
  rw [if_neg h3]
  show validD [UInt8.ofNat (240 + c / 262144), UInt8.ofNat (128 + c / 4096 % 64), UInt8.ofNat (128 + c / 64 % 64), UInt8.ofNat (128 + c % 64)] = true
  refine valid_one (c := c) (by simp) ?_ (by simp)
  rw [decodeL_N]
  show decodeN 4 (UInt8.ofNat (240 + c / 262144)).toNat (UInt8.ofNat (128 + c / 4096 % 64)).toNat (UInt8.ofNat (128 + c / 64 % 64)).toNat (UInt8.ofNat (128 + c % 64)).toNat = (c, 4)
  rw [m _ (by omega), m _ (by omega), m _ (by omega), m _ (by omega)]
  unfold decodeN
  rw [if_neg (by omega), if_neg (by omega), if_neg (by omega), if_pos ⟨by omega, ⟨by omega, by omega⟩, ⟨by omega, by omega⟩, by omega, by omega⟩, if_pos (by omega)]
  congr 1; omega
theorem clean_valid (s : ByteArray) (most : Nat) : ∀ (f pos : Nat) (out : ByteArray), validD out.data.toList = true → validD (cleanF s most f pos out).data.toList = true
  | 0, _, out, h => h
  | f + 1, pos, out, h => by
    unfold cleanF
    split
    · split
      · exact h
      · refine clean_valid s most f _ _ ?_
        rw [ByteArray.data_append, Array.toList_append]
        exact valid_app _ _ _ (Nat.le_refl _) h (valid_enc _)
    · exact h
theorem cleanT_valid (s : ByteArray) (most : Nat) : validD (cleanT s most).data.toList = true := clean_valid s most _ _ _ rfl
end Go.Proofs.YtfplkakfakdfhaaDoor

