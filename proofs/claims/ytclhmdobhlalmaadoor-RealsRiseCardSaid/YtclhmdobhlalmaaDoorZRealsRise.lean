/-
  chirographkeep.whole: the bits of a whole number as a real; the law RealsRise returns true. No condition.
-/
import Derived.Test.YtclhmdobhlalmaaDoorZOrderTurns
namespace Go.Proofs.YtclhmdobhlalmaaDoor
set_option linter.unusedSimpArgs false
set_option linter.unusedVariables false
open Go.RowKit

section
variable {P : Program} {dst : Option Nat} {ty : TypeId} {e : Operand → A} {β : Bx} {T T' : TypeId} {x y : Operand}
theorem does_conv_int_to {S T : TypeId} {s t : TyI} {x : Operand} {k k' : IntKind} {n z : Int} (hs : mkTy P S = some s) (ht : mkTy P T = some t) (hk : t.kind = .int k') (hx : e x = .d (.sc (.int k n))) (hz : k'.wrap n = z) : Does P dst (.convert S T x) ty e β (.d (.sc (.int k' z))) [] [] := by
  subst hz; exact does_conv_int hs ht hk hx
theorem does_shl_q {m k z : Nat} {k' : IntKind} {n : Int} (hx : e x = .d (qD m)) (hy : e y = .d (.sc (.int k' n))) (hn : n = (k : Nat)) (hk : k ≤ 64) (hz : m * 2 ^ k = z) (hl : z < 18446744073709551616) : Does P dst (.binOp .shl T x y T') ty e β (.d (qD z)) [] [] := by
  subst hn
  have h := does_shl (P := P) (dst := dst) (ty := ty) (β := β) (T := T) (T' := T') hx hy (by omega)
  have e1 : min (Int.toNat ((k : Nat) : Int)) IntKind.u64.bits = k := by show min k 64 = k; omega
  have e2 : (m : Int) * 2 ^ k = (z : Int) := by rw [← hz]; simp
  have e3 : IntKind.u64.wrap (z : Int) = z := by rw [IntKind.wrap_u64]; omega
  rwa [e1, e2, e3] at h
theorem two63 : (2 : Nat) ^ 63 = 9223372036854775808 := by decide
theorem two52 : (2 : Nat) ^ 52 = 4503599627370496 := by decide
theorem does_shl_63 {m z : Nat} {k' : IntKind} (hx : e x = .d (qD m)) (hy : e y = .d (.sc (.int k' 63))) (hz : m * 9223372036854775808 = z) (hl : z < 18446744073709551616) : Does P dst (.binOp .shl T x y T') ty e β (.d (qD z)) [] [] :=
  does_shl_q (k := 63) hx hy rfl (by decide) (by rw [two63]; exact hz) hl
theorem does_shl_52 {m z : Nat} {k' : IntKind} (hx : e x = .d (qD m)) (hy : e y = .d (.sc (.int k' 52))) (hz : m * 4503599627370496 = z) (hl : z < 18446744073709551616) : Does P dst (.binOp .shl T x y T') ty e β (.d (qD z)) [] [] :=
  does_shl_q (k := 52) hx hy rfl (by decide) (by rw [two52]; exact hz) hl
end
theorem or_nat (x y : Nat) (hx : x < 18446744073709551616) (hy : y < 18446744073709551616) : bitV .or .u64 (x : Int) (y : Int) = ((x ||| y : Nat) : Int) := by
  have hz : x ||| y < 2 ^ 64 := Nat.or_lt_two_pow (by omega) (by omega)
  have e : ∀ z : Nat, z < 18446744073709551616 → (BitVec.ofInt 64 (z : Int)).toNat = z := fun z hz => by rw [BitVec.ofInt_natCast, BitVec.toNat_ofNat]; exact Nat.mod_eq_of_lt (by omega)
  show IntKind.u64.wrap ((BitVec.ofInt 64 (x : Int) ||| BitVec.ofInt 64 (y : Int)).toNat : Int) = _
  rw [BitVec.toNat_or, e x hx, e y hy, IntKind.wrap_u64]
  omega
theorem or_join (a b i M : Nat) (hM : 2 ^ i = M) (h : b < M) : a * M ||| b = a * M + b := by
  subst hM
  rw [← Nat.shiftLeft_eq, Nat.shiftLeft_add_eq_or_of_lt h]
/-- The word that is put together stands for the number. -/
theorem whole_key (s a t k : Nat) (hs : s = 0 ∨ s = 1) (ht : t ≤ 52) (hk : a * 2 ^ t = k) (h1 : 4503599627370496 ≤ k) (h2 : k < 9007199254740992) :
    finF ((s * 2048 + (1075 - t)) * 4503599627370496 + k % 4503599627370496) ∧ (s * 2048 + (1075 - t)) * 4503599627370496 + k % 4503599627370496 ≠ 9223372036854775808 ∧
    keyF ((s * 2048 + (1075 - t)) * 4503599627370496 + k % 4503599627370496) = (if s = 1 then -((a * 2 ^ 1074 : Nat) : Int) else ((a * 2 ^ 1074 : Nat) : Int)) := by
  obtain ⟨e, he⟩ : ∃ e, 1075 - t = e := ⟨_, rfl⟩
  rw [he]
  obtain ⟨f, hf⟩ : ∃ f, k % 4503599627370496 = f := ⟨_, rfl⟩
  rw [hf]
  have hf2 : k = 4503599627370496 + f := by omega
  have hr : rung ((s * 2048 + e) * 4503599627370496 + f) = e * 4503599627370496 + f := by unfold rung; omega
  have hsg : sgnF ((s * 2048 + e) * 4503599627370496 + f) = decide (s = 1) := by
    unfold sgnF
    rcases hs with rfl | rfl
    · have : (0 * 2048 + e) * 4503599627370496 + f = e * 4503599627370496 + f := by omega
      rw [this, Nat.div_eq_of_lt (by omega)]; rfl
    · have : ((1 * 2048 + e) * 4503599627370496 + f) / 9223372036854775808 = 1 := by omega
      rw [this]; rfl
  have hv : valN (e * 4503599627370496 + f) = a * 2 ^ 1074 := by
    unfold valN magF expF
    rw [if_neg (by omega), if_neg (by omega)]
    have e1 : (e * 4503599627370496 + f) % 4503599627370496 = f := by omega
    have e2 : (e * 4503599627370496 + f) / 4503599627370496 - 1 = 1074 - t := by omega
    rw [e1, e2, ← hf2, ← hk, Nat.mul_assoc, ← Nat.pow_add, show t + (1074 - t) = 1074 by omega]
  refine ⟨?_, by omega, ?_⟩
  · unfold finF
    rw [hr]; omega
  · unfold keyF
    rw [hr, hv, hsg]
    rcases hs with rfl | rfl
    · rw [if_neg (by decide), if_neg (by decide)]
    · rw [if_pos (by decide), if_pos (by decide)]
set_option maxHeartbeats 2000000 in
theorem whole_pc (m : Int) (hm : -562949953421312 ≤ m ∧ m ≤ 562949953421312) : ∃ b : Nat, b < 18446744073709551616 ∧ finF b ∧ b ≠ 9223372036854775808 ∧ keyF b = m * ((2 ^ 1074 : Nat) : Int) ∧ PC Tryd.prog 17 [iD m] (.ag [iD 3, iD 0, qD b, strD .empty]) := by
  by_cases h0 : m = 0
  · subst h0
    refine ⟨0, by omega, by unfold finF rung; omega, by omega, by rw [Int.zero_mul]; rfl, ?_⟩
    refine pc_of_aw Tryd.func17 rfl (by kernel_rfl) mixed (by kernel_rfl) (by rw [Tryd.ntmps17]; exact Nat.le_of_ble_eq_true rfl) Tryd.results17 ?_
    repeat (first | (with_reducible apply aw_seq) | (with_reducible apply aw_reg) | (with_reducible apply rp_nil) | (with_reducible apply ae_norm) | ((with_reducible apply be_other); exact rfl) | ((with_reducible apply dr_nil); first | kernel_rfl | exact rfl) | ((first | (with_reducible apply rp) | (with_reducible apply dr)); first | ((with_reducible apply does_move); (conv => lhs; whnf)) | ((with_reducible apply does_eq); exact rfl; exact rfl)) | ((first | (with_reducible apply rp1) | (with_reducible apply dr1)); first | ((with_reducible apply does_alloc); exact tyOk rfl; exact rfl)))
    refine aw_cond rfl (fun _ => ?_) (fun h => (by cases h))
    repeat (first | (with_reducible apply aw_seq) | (with_reducible apply aw_reg) | (with_reducible apply rp_nil) | (with_reducible apply ae_norm) | (with_reducible apply aw_ret) | (with_reducible apply ae_ret) | (with_reducible apply re_ret) | ((with_reducible apply be_other); exact rfl) | ((with_reducible apply dr_nil); first | kernel_rfl | exact rfl) | ((first | (with_reducible apply rp) | (with_reducible apply dr)); first | ((with_reducible apply does_build); exact tyOk rfl; exact rfl; exact rfl; (focus repeat' (first | exact rfl | refine ⟨_, _, rfl, rfl, Nat.le_of_ble_eq_true rfl, rfl, ?_⟩)); exact rfl)) | ((first | (with_reducible apply rpN) | (with_reducible apply drN)); first | ((with_reducible apply does_store); exact tyOk rfl; exact rfl; exact rfl; (conv => lhs; whnf); exact rfl; exact rfl; (first | exact Nat.le_of_ble_eq_true rfl | omega | (simp; omega))) | ((with_reducible apply does_store_whole); exact tyOk rfl; exact rfl; exact rfl; exact rfl; exact rfl; exact rfl)))
    (with_reducible apply ret_ok); (focus (repeat' (first | (with_reducible apply rv_nil) | (with_reducible apply rv_cons) | ((with_reducible apply rv_tmp); exact rfl) | ((with_reducible apply rv_cell); exact rfl; exact rfl; exact tyOk rfl; exact rfl; exact rfl) | ((with_reducible apply rv_rowd); exact rfl; exact rfl; exact tyOk rfl; exact rfl; (first | (with_reducible assumption) | exact rfl | ((try simp only [List.length_map]); first | assumption | omega) | (simp; omega))) | ((with_reducible apply rv_row); exact rfl; exact rfl; exact tyOk rfl; exact rfl; (first | exact Nat.le_of_ble_eq_true rfl | omega | (simp; omega)))))); (first | exact rfl | (focus repeat' (first | exact frzVs_one (frzV_map _ _) | exact rfl | (apply frzVs_cons; (first | exact frzV_map _ _ | exact rfl))))); refine SubD.of_eq ?_
    rfl
  · obtain ⟨s, a, hs, ha, ha1, ha2⟩ : ∃ s a : Nat, ((s = 0 ∧ 0 < m) ∨ (s = 1 ∧ m < 0)) ∧ (m = if s = 1 then -(a : Int) else a) ∧ 1 ≤ a ∧ a ≤ 562949953421312 := by
      by_cases hp : 0 < m
      · exact ⟨0, m.toNat, .inl ⟨rfl, hp⟩, by rw [if_neg (by decide)]; omega, by omega, by omega⟩
      · exact ⟨1, (-m).toNat, .inr ⟨rfl, by omega⟩, by rw [if_pos rfl]; omega, by omega, by omega⟩
    -- how often it is doubled
    have grow : ∀ n : Nat, a * 2 ^ n < 4503599627370496 ∨ ∃ t, t ≤ n ∧ 4503599627370496 ≤ a * 2 ^ t ∧ a * 2 ^ t < 9007199254740992 ∧ ∀ q, q < t → a * 2 ^ q < 4503599627370496 := by
      intro n
      induction n with
      | zero => left; rw [Nat.pow_zero]; omega
      | succ n ih =>
        rcases ih with h | ⟨t, h1, h2⟩
        · by_cases hlt : a * 2 ^ (n + 1) < 4503599627370496
          · exact .inl hlt
          · refine .inr ⟨n + 1, Nat.le_refl _, by omega, by rw [Nat.pow_succ, ← Nat.mul_assoc]; omega, fun q hq => ?_⟩
            have : 2 ^ q ≤ 2 ^ n := Nat.pow_le_pow_right (by omega) (by omega)
            exact Nat.lt_of_le_of_lt (Nat.mul_le_mul_left _ this) h
        · exact .inr ⟨t, by omega, h2⟩
    obtain ⟨t, ht, hk1, hk2, hbelow⟩ : ∃ t, t ≤ 52 ∧ 4503599627370496 ≤ a * 2 ^ t ∧ a * 2 ^ t < 9007199254740992 ∧ ∀ q, q < t → a * 2 ^ q < 4503599627370496 := by
      rcases grow 52 with h | h
      · exfalso
        have : 1 * 2 ^ 52 ≤ a * 2 ^ 52 := Nat.mul_le_mul_right _ ha1
        omega
      · exact h
    obtain ⟨k, hk⟩ : ∃ k, a * 2 ^ t = k := ⟨_, rfl⟩
    rw [hk] at hk1 hk2
    obtain ⟨w1, w2, w3⟩ := whole_key s a t k (by omega) ht hk hk1 hk2
    have hkey : keyF ((s * 2048 + (1075 - t)) * 4503599627370496 + k % 4503599627370496) = m * ((2 ^ 1074 : Nat) : Int) := by
      rw [w3, ha]
      split
      · rw [Int.neg_mul, Int.natCast_mul]
      · rw [Int.natCast_mul]
    refine ⟨_, by omega, w1, w2, hkey, ?_⟩
    clear w1 w2 w3 hkey grow
    have hz : (m == 0) = false := beq_eq_false_iff_ne.2 h0
    obtain ⟨e, he⟩ : ∃ e, 1075 - t = e := ⟨_, rfl⟩
    have hmask : bitV .and .u64 (k : Int) 4503599627370495 = ((k % 4503599627370496 : Nat) : Int) := by
      have h := and_nat k 4503599627370495 (by omega) (by omega)
      rw [show k &&& 4503599627370495 = k % 4503599627370496 from Nat.and_two_pow_sub_one_eq_mod _ 52] at h
      exact h
    have ho1 : bitV .or .u64 ((s * 9223372036854775808 : Nat) : Int) ((e * 4503599627370496 : Nat) : Int) = (((s * 2048 + e) * 4503599627370496 : Nat) : Int) := by
      rw [or_nat _ _ (by omega) (by omega), or_join s (e * 4503599627370496) 63 9223372036854775808 (by decide) (by omega)]
      have e1 : s * 9223372036854775808 + e * 4503599627370496 = (s * 2048 + e) * 4503599627370496 := by omega
      rw [e1]
    have ho2 : bitV .or .u64 (((s * 2048 + e) * 4503599627370496 : Nat) : Int) ((k % 4503599627370496 : Nat) : Int) = (((s * 2048 + e) * 4503599627370496 + k % 4503599627370496 : Nat) : Int) := by
      rw [or_nat _ _ (by omega) (by omega), or_join (s * 2048 + e) (k % 4503599627370496) 52 4503599627370496 (by decide) (by omega)]
    rw [he]
    have hcv : IntKind.u64.wrap (if s = 1 then -m else m) = (a : Int) := by
      rw [IntKind.wrap_u64]
      rcases hs with ⟨rfl, h⟩ | ⟨rfl, h⟩
      · rw [if_neg (by decide)] at ha ⊢; omega
      · rw [if_pos rfl] at ha ⊢; omega
    obtain ⟨hi, hhi⟩ : ∃ x, s * 9223372036854775808 = x := ⟨_, rfl⟩
    obtain ⟨el, hel⟩ : ∃ x, e * 4503599627370496 = x := ⟨_, rfl⟩
    obtain ⟨mid, hmid⟩ : ∃ x, (s * 2048 + e) * 4503599627370496 = x := ⟨_, rfl⟩
    obtain ⟨kr, hkr⟩ : ∃ x, k % 4503599627370496 = x := ⟨_, rfl⟩
    have hb1 : hi < 18446744073709551616 := by omega
    have hb2 : el < 18446744073709551616 := by omega
    rw [hhi, hel, hmid] at ho1
    rw [hmid, hkr] at ho2
    rw [hkr] at hmask
    rw [hmid, hkr]
    clear hmid hkr
    rcases hs with ⟨rfl, hs⟩ | ⟨rfl, hs⟩
    · rw [Nat.zero_mul] at hhi
      have hz2 : decide (m < 0) = false := decide_eq_false (by omega)
      rw [if_neg (by decide)] at hcv
      clear ha
      refine pc_of_aw Tryd.func17 rfl (by kernel_rfl) mixed (by kernel_rfl) (by rw [Tryd.ntmps17]; exact Nat.le_of_ble_eq_true rfl) Tryd.results17 ?_
      repeat (first | (with_reducible apply aw_seq) | (with_reducible apply aw_reg) | (with_reducible apply rp_nil) | (with_reducible apply ae_norm) | ((with_reducible apply be_other); exact rfl) | ((with_reducible apply dr_nil); first | kernel_rfl | exact rfl) | ((first | (with_reducible apply rp) | (with_reducible apply dr)); first | ((with_reducible apply does_move); (conv => lhs; whnf)) | ((with_reducible apply does_eq); exact rfl; exact rfl)) | ((first | (with_reducible apply rp1) | (with_reducible apply dr1)); first | ((with_reducible apply does_alloc); exact tyOk rfl; exact rfl)))
      refine aw_cond rfl (fun h => absurd (hz.symm.trans h) (by decide)) (fun _ => ?_)
      repeat (first | (with_reducible apply aw_seq) | (with_reducible apply aw_reg) | (with_reducible apply rp_nil) | (with_reducible apply ae_norm) | (with_reducible apply aw_skip) | ((with_reducible apply be_other); exact rfl) | ((with_reducible apply dr_nil); first | kernel_rfl | exact rfl) | ((first | (with_reducible apply rp) | (with_reducible apply dr)); first | (exact does_conv_int_to (z := (a : Int)) (tyOk rfl) (tyOk rfl) rfl rfl hcv) | ((with_reducible apply does_move); (conv => lhs; whnf)) | ((with_reducible apply does_assign); (conv => lhs; whnf)) | ((with_reducible apply does_lt); exact rfl; exact rfl)) | ((first | (with_reducible apply rp1) | (with_reducible apply dr1)); first | (exact does_conv_int_to (z := (a : Int)) (tyOk rfl) (tyOk rfl) rfl rfl hcv)) | ((first | (with_reducible apply rp2) | (with_reducible apply dr2)); first | (exact does_conv_int_to (z := (a : Int)) (tyOk rfl) (tyOk rfl) rfl rfl hcv)) | ((first | (with_reducible apply rpN) | (with_reducible apply drN)); first | (exact does_conv_int_to (z := (a : Int)) (tyOk rfl) (tyOk rfl) rfl rfl hcv)))
      refine aw_cond rfl (fun h => absurd (hz2.symm.trans h) (by decide)) (fun _ => ?_)
      repeat (first | (with_reducible apply aw_seq) | (with_reducible apply aw_reg) | (with_reducible apply rp_nil) | (with_reducible apply ae_norm) | (with_reducible apply aw_block) | (with_reducible apply aw_skip) | ((with_reducible apply be_other); exact rfl) | ((with_reducible apply dr_nil); first | kernel_rfl | exact rfl) | ((first | (with_reducible apply rp) | (with_reducible apply dr)); first | ((with_reducible apply does_assign); (conv => lhs; whnf))))
      refine aw_loop (fun n st => ∃ q kq, q ≤ t ∧ a * 2 ^ q = kq ∧ n = t - q ∧ st = ⟨[(2, .px 2 0), (3, .d (qD 0)), (4, .d (qD kq)), (5, .d (qD (1075 - q)))], [(2, .var 26 [.d (iD 0), .d (iD 0), .d (qD 0), .d (strD .empty)])]⟩) _ _ ?_ ⟨0, a, by omega, by rw [Nat.pow_zero, Nat.mul_one], rfl, rfl⟩ ?_
      · refine forget_of [] (by repeat' (first | exact ks_nil | (refine ks_cons rfl (by first | exact SubA.refl _ | exact SubA.d (SubD.nil _) | exact subA_ow (by first | rfl | (simp; done) | (simp; omega)) | exact subA_i (by first | rfl | (simp; done) | (simp; omega) | omega) | (refine SubA.of_eq ?_; first | rfl | (simp; done) | (simp; omega))) ?_))) (by repeat' (first | exact trivial | exact rfl | exact kb_d rfl | refine And.intro ?_ ?_)) rfl (by repeat' (first | exact trivial | exact insB_map _ | exact inB_ow rfl | exact inB_px rfl | exact inB_pr rfl | refine And.intro ?_ ?_)) (by repeat' (first | exact trivial | exact insB_map _ | exact inB_ow rfl | exact inB_px rfl | exact inB_pr rfl | refine And.intro ?_ ?_))
      · rintro n st ⟨q, kq, hq, hkq, rfl, rfl⟩
        repeat (first | (with_reducible apply aw_seq) | (with_reducible apply aw_reg) | (with_reducible apply rp_nil) | (with_reducible apply ae_norm) | ((with_reducible apply be_other); exact rfl) | ((with_reducible apply dr_nil); first | kernel_rfl | exact rfl) | ((first | (with_reducible apply rp) | (with_reducible apply dr)); first | ((with_reducible apply does_move); (conv => lhs; whnf)) | ((with_reducible apply does_lt); exact rfl; exact rfl)))
        by_cases hqt : q < t
        · have hlt := hbelow q hqt
          rw [hkq] at hlt
          have hd : decide ((kq : Int) < 4503599627370496) = true := decide_eq_true (by omega)
          have hsub : D.sc (intV .sub .u64 ((1075 - q : Nat) : Int) 1).2 = qD (1075 - (q + 1)) := by
            have h1 : IntKind.u64.wrap (((1075 - q : Nat) : Int) - 1) = ((1075 - (q + 1) : Nat) : Int) := by rw [IntKind.wrap_u64]; omega
            exact congrArg (fun z => D.sc (.int .u64 z)) h1
          refine aw_cond rfl (fun _ => ?_) (fun h => absurd (hd.symm.trans h) (by decide))
          repeat (first | (with_reducible apply aw_seq) | (with_reducible apply aw_reg) | (with_reducible apply rp_nil) | (with_reducible apply ae_norm) | (with_reducible apply aw_block) | (with_reducible apply be_norm) | (with_reducible apply aw_skip) | ((with_reducible apply be_other); exact rfl) | ((with_reducible apply dr_nil); first | kernel_rfl | exact rfl) | ((first | (with_reducible apply rp) | (with_reducible apply dr)); first | (exact does_shl_q (m := kq) (k := 1) (z := kq * 2) rfl rfl rfl (by omega) (by rw [Nat.pow_one]) (by omega)) | (exact does_int_to (z := qD (1075 - (q + 1))) rfl rfl trivial hsub) | ((with_reducible apply does_move); (conv => lhs; whnf)) | ((with_reducible apply does_assign); (conv => lhs; whnf))) | ((first | (with_reducible apply rp1) | (with_reducible apply dr1)); first | (exact does_shl_q (m := kq) (k := 1) (z := kq * 2) rfl rfl rfl (by omega) (by rw [Nat.pow_one]) (by omega)) | (exact does_int_to (z := qD (1075 - (q + 1))) rfl rfl trivial hsub)) | ((first | (with_reducible apply rp2) | (with_reducible apply dr2)); first | (exact does_shl_q (m := kq) (k := 1) (z := kq * 2) rfl rfl rfl (by omega) (by rw [Nat.pow_one]) (by omega)) | (exact does_int_to (z := qD (1075 - (q + 1))) rfl rfl trivial hsub)) | ((first | (with_reducible apply rpN) | (with_reducible apply drN)); first | (exact does_shl_q (m := kq) (k := 1) (z := kq * 2) rfl rfl rfl (by omega) (by rw [Nat.pow_one]) (by omega)) | (exact does_int_to (z := qD (1075 - (q + 1))) rfl rfl trivial hsub)))
          refine ⟨_, _, ?_, ?_, q + 1, kq * 2, by omega, by rw [Nat.pow_succ, ← Nat.mul_assoc, hkq], rfl, rfl⟩
          · omega
          · refine forget_of [] (by repeat' (first | exact ks_nil | (refine ks_cons rfl (by first | exact SubA.refl _ | exact SubA.d (SubD.nil _) | exact subA_ow (by first | rfl | (simp; done) | (simp; omega)) | exact subA_i (by first | rfl | (simp; done) | (simp; omega) | omega) | (refine SubA.of_eq ?_; first | rfl | (simp; done) | (simp; omega))) ?_))) (by repeat' (first | exact trivial | exact rfl | exact kb_d rfl | refine And.intro ?_ ?_)) rfl (by repeat' (first | exact trivial | exact insB_map _ | exact inB_ow rfl | exact inB_px rfl | exact inB_pr rfl | refine And.intro ?_ ?_)) (by repeat' (first | exact trivial | exact insB_map _ | exact inB_ow rfl | exact inB_px rfl | exact inB_pr rfl | refine And.intro ?_ ?_))
        · obtain rfl : q = t := by omega
          obtain rfl : k = kq := by rw [← hk, hkq]
          have hd : decide ((k : Int) < 4503599627370496) = false := decide_eq_false (by omega)
          rw [he]
          refine aw_cond rfl (fun h => absurd (hd.symm.trans h) (by decide)) (fun _ => ?_)
          repeat (first | (with_reducible apply aw_seq) | (with_reducible apply aw_reg) | (with_reducible apply rp_nil) | (with_reducible apply ae_norm) | (with_reducible apply aw_exit) | (with_reducible apply ae_exit) | (with_reducible apply be_exit) | (with_reducible apply aw_ret) | (with_reducible apply re_ret) | ((with_reducible apply be_other); exact rfl) | ((with_reducible apply dr_nil); first | kernel_rfl | exact rfl) | ((first | (with_reducible apply rp) | (with_reducible apply dr)); first | (exact does_shl_63 (m := 0) (z := hi) rfl rfl ((Nat.zero_mul _).trans hhi) hb1) | (exact does_shl_52 (m := e) (z := el) rfl rfl hel hb2) | (exact does_int_to (z := qD mid) rfl rfl trivial (congrArg (fun z => D.sc (.int .u64 z)) ho1)) | (exact does_int_to (z := qD kr) rfl rfl trivial (congrArg (fun z => D.sc (.int .u64 z)) hmask)) | (exact does_int_to (z := qD (mid + kr)) rfl rfl trivial (congrArg (fun z => D.sc (.int .u64 z)) ho2)) | ((with_reducible apply does_move); (conv => lhs; whnf)) | ((with_reducible apply does_build); exact tyOk rfl; exact rfl; exact rfl; (focus repeat' (first | exact rfl | refine ⟨_, _, rfl, rfl, Nat.le_of_ble_eq_true rfl, rfl, ?_⟩)); exact rfl)) | ((first | (with_reducible apply rp1) | (with_reducible apply dr1)); first | (exact does_shl_63 (m := 0) (z := hi) rfl rfl ((Nat.zero_mul _).trans hhi) hb1) | (exact does_shl_52 (m := e) (z := el) rfl rfl hel hb2) | (exact does_int_to (z := qD mid) rfl rfl trivial (congrArg (fun z => D.sc (.int .u64 z)) ho1)) | (exact does_int_to (z := qD kr) rfl rfl trivial (congrArg (fun z => D.sc (.int .u64 z)) hmask)) | (exact does_int_to (z := qD (mid + kr)) rfl rfl trivial (congrArg (fun z => D.sc (.int .u64 z)) ho2))) | ((first | (with_reducible apply rp2) | (with_reducible apply dr2)); first | (exact does_shl_63 (m := 0) (z := hi) rfl rfl ((Nat.zero_mul _).trans hhi) hb1) | (exact does_shl_52 (m := e) (z := el) rfl rfl hel hb2) | (exact does_int_to (z := qD mid) rfl rfl trivial (congrArg (fun z => D.sc (.int .u64 z)) ho1)) | (exact does_int_to (z := qD kr) rfl rfl trivial (congrArg (fun z => D.sc (.int .u64 z)) hmask)) | (exact does_int_to (z := qD (mid + kr)) rfl rfl trivial (congrArg (fun z => D.sc (.int .u64 z)) ho2))) | ((first | (with_reducible apply rpN) | (with_reducible apply drN)); first | (exact does_shl_63 (m := 0) (z := hi) rfl rfl ((Nat.zero_mul _).trans hhi) hb1) | (exact does_shl_52 (m := e) (z := el) rfl rfl hel hb2) | (exact does_int_to (z := qD mid) rfl rfl trivial (congrArg (fun z => D.sc (.int .u64 z)) ho1)) | (exact does_int_to (z := qD kr) rfl rfl trivial (congrArg (fun z => D.sc (.int .u64 z)) hmask)) | (exact does_int_to (z := qD (mid + kr)) rfl rfl trivial (congrArg (fun z => D.sc (.int .u64 z)) ho2)) | ((with_reducible apply does_store); exact tyOk rfl; exact rfl; exact rfl; (conv => lhs; whnf); exact rfl; exact rfl; (first | exact Nat.le_of_ble_eq_true rfl | omega | (simp; omega))) | ((with_reducible apply does_store_whole); exact tyOk rfl; exact rfl; exact rfl; exact rfl; exact rfl; exact rfl)))
          (with_reducible apply ret_ok); (focus (repeat' (first | (with_reducible apply rv_nil) | (with_reducible apply rv_cons) | ((with_reducible apply rv_tmp); exact rfl) | ((with_reducible apply rv_cell); exact rfl; exact rfl; exact tyOk rfl; exact rfl; exact rfl) | ((with_reducible apply rv_rowd); exact rfl; exact rfl; exact tyOk rfl; exact rfl; (first | (with_reducible assumption) | exact rfl | ((try simp only [List.length_map]); first | assumption | omega) | (simp; omega))) | ((with_reducible apply rv_row); exact rfl; exact rfl; exact tyOk rfl; exact rfl; (first | exact Nat.le_of_ble_eq_true rfl | omega | (simp; omega)))))); (first | exact rfl | (focus repeat' (first | exact frzVs_one (frzV_map _ _) | exact rfl | (apply frzVs_cons; (first | exact frzV_map _ _ | exact rfl))))); refine SubD.of_eq ?_
          rfl
    · rw [Nat.one_mul] at hhi
      have hz2 : decide (m < 0) = true := decide_eq_true (by omega)
      rw [if_pos rfl] at hcv
      have hneg : IntKind.i64.wrap (0 - m) = -m := by rw [IntKind.wrap_i64]; omega
      clear ha
      refine pc_of_aw Tryd.func17 rfl (by kernel_rfl) mixed (by kernel_rfl) (by rw [Tryd.ntmps17]; exact Nat.le_of_ble_eq_true rfl) Tryd.results17 ?_
      repeat (first | (with_reducible apply aw_seq) | (with_reducible apply aw_reg) | (with_reducible apply rp_nil) | (with_reducible apply ae_norm) | ((with_reducible apply be_other); exact rfl) | ((with_reducible apply dr_nil); first | kernel_rfl | exact rfl) | ((first | (with_reducible apply rp) | (with_reducible apply dr)); first | ((with_reducible apply does_move); (conv => lhs; whnf)) | ((with_reducible apply does_eq); exact rfl; exact rfl)) | ((first | (with_reducible apply rp1) | (with_reducible apply dr1)); first | ((with_reducible apply does_alloc); exact tyOk rfl; exact rfl)))
      refine aw_cond rfl (fun h => absurd (hz.symm.trans h) (by decide)) (fun _ => ?_)
      repeat (first | (with_reducible apply aw_seq) | (with_reducible apply aw_reg) | (with_reducible apply rp_nil) | (with_reducible apply ae_norm) | (with_reducible apply aw_skip) | ((with_reducible apply be_other); exact rfl) | ((with_reducible apply dr_nil); first | kernel_rfl | exact rfl) | ((first | (with_reducible apply rp) | (with_reducible apply dr)); first | (exact does_conv_int (tyOk rfl) (tyOk rfl) rfl rfl) | ((with_reducible apply does_move); (conv => lhs; whnf)) | ((with_reducible apply does_assign); (conv => lhs; whnf)) | ((with_reducible apply does_lt); exact rfl; exact rfl)) | ((first | (with_reducible apply rp1) | (with_reducible apply dr1)); first | (exact does_conv_int (tyOk rfl) (tyOk rfl) rfl rfl)) | ((first | (with_reducible apply rp2) | (with_reducible apply dr2)); first | (exact does_conv_int (tyOk rfl) (tyOk rfl) rfl rfl)) | ((first | (with_reducible apply rpN) | (with_reducible apply drN)); first | (exact does_conv_int (tyOk rfl) (tyOk rfl) rfl rfl)))
      refine aw_cond rfl (fun _ => ?_) (fun h => absurd (hz2.symm.trans h) (by decide))
      repeat (first | (with_reducible apply aw_seq) | (with_reducible apply aw_reg) | (with_reducible apply rp_nil) | (with_reducible apply ae_norm) | (with_reducible apply aw_block) | ((with_reducible apply be_other); exact rfl) | ((with_reducible apply dr_nil); first | kernel_rfl | exact rfl) | ((first | (with_reducible apply rp) | (with_reducible apply dr)); first | (exact does_conv_int_to (z := (a : Int)) (tyOk rfl) (tyOk rfl) rfl rfl (by rw [hneg]; exact hcv)) | ((with_reducible apply does_move); (conv => lhs; whnf)) | ((with_reducible apply does_assign); (conv => lhs; whnf)) | ((with_reducible apply does_neg); exact rfl)) | ((first | (with_reducible apply rp1) | (with_reducible apply dr1)); first | (exact does_conv_int_to (z := (a : Int)) (tyOk rfl) (tyOk rfl) rfl rfl (by rw [hneg]; exact hcv))) | ((first | (with_reducible apply rp2) | (with_reducible apply dr2)); first | (exact does_conv_int_to (z := (a : Int)) (tyOk rfl) (tyOk rfl) rfl rfl (by rw [hneg]; exact hcv))) | ((first | (with_reducible apply rpN) | (with_reducible apply drN)); first | (exact does_conv_int_to (z := (a : Int)) (tyOk rfl) (tyOk rfl) rfl rfl (by rw [hneg]; exact hcv))))
      refine aw_loop (fun n st => ∃ q kq, q ≤ t ∧ a * 2 ^ q = kq ∧ n = t - q ∧ st = ⟨[(2, .px 2 0), (3, .d (qD 1)), (4, .d (qD kq)), (5, .d (qD (1075 - q)))], [(2, .var 26 [.d (iD 0), .d (iD 0), .d (qD 0), .d (strD .empty)])]⟩) _ _ ?_ ⟨0, a, by omega, by rw [Nat.pow_zero, Nat.mul_one], rfl, rfl⟩ ?_
      · refine forget_of [] (by repeat' (first | exact ks_nil | (refine ks_cons rfl (by first | exact SubA.refl _ | exact SubA.d (SubD.nil _) | exact subA_ow (by first | rfl | (simp; done) | (simp; omega)) | exact subA_i (by first | rfl | (simp; done) | (simp; omega) | omega) | (refine SubA.of_eq ?_; first | rfl | (simp; done) | (simp; omega))) ?_))) (by repeat' (first | exact trivial | exact rfl | exact kb_d rfl | refine And.intro ?_ ?_)) rfl (by repeat' (first | exact trivial | exact insB_map _ | exact inB_ow rfl | exact inB_px rfl | exact inB_pr rfl | refine And.intro ?_ ?_)) (by repeat' (first | exact trivial | exact insB_map _ | exact inB_ow rfl | exact inB_px rfl | exact inB_pr rfl | refine And.intro ?_ ?_))
      · rintro n st ⟨q, kq, hq, hkq, rfl, rfl⟩
        repeat (first | (with_reducible apply aw_seq) | (with_reducible apply aw_reg) | (with_reducible apply rp_nil) | (with_reducible apply ae_norm) | ((with_reducible apply be_other); exact rfl) | ((with_reducible apply dr_nil); first | kernel_rfl | exact rfl) | ((first | (with_reducible apply rp) | (with_reducible apply dr)); first | ((with_reducible apply does_move); (conv => lhs; whnf)) | ((with_reducible apply does_lt); exact rfl; exact rfl)))
        by_cases hqt : q < t
        · have hlt := hbelow q hqt
          rw [hkq] at hlt
          have hd : decide ((kq : Int) < 4503599627370496) = true := decide_eq_true (by omega)
          have hsub : D.sc (intV .sub .u64 ((1075 - q : Nat) : Int) 1).2 = qD (1075 - (q + 1)) := by
            have h1 : IntKind.u64.wrap (((1075 - q : Nat) : Int) - 1) = ((1075 - (q + 1) : Nat) : Int) := by rw [IntKind.wrap_u64]; omega
            exact congrArg (fun z => D.sc (.int .u64 z)) h1
          refine aw_cond rfl (fun _ => ?_) (fun h => absurd (hd.symm.trans h) (by decide))
          repeat (first | (with_reducible apply aw_seq) | (with_reducible apply aw_reg) | (with_reducible apply rp_nil) | (with_reducible apply ae_norm) | (with_reducible apply aw_block) | (with_reducible apply be_norm) | (with_reducible apply aw_skip) | ((with_reducible apply be_other); exact rfl) | ((with_reducible apply dr_nil); first | kernel_rfl | exact rfl) | ((first | (with_reducible apply rp) | (with_reducible apply dr)); first | (exact does_shl_q (m := kq) (k := 1) (z := kq * 2) rfl rfl rfl (by omega) (by rw [Nat.pow_one]) (by omega)) | (exact does_int_to (z := qD (1075 - (q + 1))) rfl rfl trivial hsub) | ((with_reducible apply does_move); (conv => lhs; whnf)) | ((with_reducible apply does_assign); (conv => lhs; whnf))) | ((first | (with_reducible apply rp1) | (with_reducible apply dr1)); first | (exact does_shl_q (m := kq) (k := 1) (z := kq * 2) rfl rfl rfl (by omega) (by rw [Nat.pow_one]) (by omega)) | (exact does_int_to (z := qD (1075 - (q + 1))) rfl rfl trivial hsub)) | ((first | (with_reducible apply rp2) | (with_reducible apply dr2)); first | (exact does_shl_q (m := kq) (k := 1) (z := kq * 2) rfl rfl rfl (by omega) (by rw [Nat.pow_one]) (by omega)) | (exact does_int_to (z := qD (1075 - (q + 1))) rfl rfl trivial hsub)) | ((first | (with_reducible apply rpN) | (with_reducible apply drN)); first | (exact does_shl_q (m := kq) (k := 1) (z := kq * 2) rfl rfl rfl (by omega) (by rw [Nat.pow_one]) (by omega)) | (exact does_int_to (z := qD (1075 - (q + 1))) rfl rfl trivial hsub)))
          refine ⟨_, _, ?_, ?_, q + 1, kq * 2, by omega, by rw [Nat.pow_succ, ← Nat.mul_assoc, hkq], rfl, rfl⟩
          · omega
          · refine forget_of [] (by repeat' (first | exact ks_nil | (refine ks_cons rfl (by first | exact SubA.refl _ | exact SubA.d (SubD.nil _) | exact subA_ow (by first | rfl | (simp; done) | (simp; omega)) | exact subA_i (by first | rfl | (simp; done) | (simp; omega) | omega) | (refine SubA.of_eq ?_; first | rfl | (simp; done) | (simp; omega))) ?_))) (by repeat' (first | exact trivial | exact rfl | exact kb_d rfl | refine And.intro ?_ ?_)) rfl (by repeat' (first | exact trivial | exact insB_map _ | exact inB_ow rfl | exact inB_px rfl | exact inB_pr rfl | refine And.intro ?_ ?_)) (by repeat' (first | exact trivial | exact insB_map _ | exact inB_ow rfl | exact inB_px rfl | exact inB_pr rfl | refine And.intro ?_ ?_))
        · obtain rfl : q = t := by omega
          obtain rfl : k = kq := by rw [← hk, hkq]
          have hd : decide ((k : Int) < 4503599627370496) = false := decide_eq_false (by omega)
          rw [he]
          refine aw_cond rfl (fun h => absurd (hd.symm.trans h) (by decide)) (fun _ => ?_)
          repeat (first | (with_reducible apply aw_seq) | (with_reducible apply aw_reg) | (with_reducible apply rp_nil) | (with_reducible apply ae_norm) | (with_reducible apply aw_exit) | (with_reducible apply ae_exit) | (with_reducible apply be_exit) | (with_reducible apply aw_ret) | (with_reducible apply re_ret) | ((with_reducible apply be_other); exact rfl) | ((with_reducible apply dr_nil); first | kernel_rfl | exact rfl) | ((first | (with_reducible apply rp) | (with_reducible apply dr)); first | (exact does_shl_63 (m := 1) (z := hi) rfl rfl ((Nat.one_mul _).trans hhi) hb1) | (exact does_shl_52 (m := e) (z := el) rfl rfl hel hb2) | (exact does_int_to (z := qD mid) rfl rfl trivial (congrArg (fun z => D.sc (.int .u64 z)) ho1)) | (exact does_int_to (z := qD kr) rfl rfl trivial (congrArg (fun z => D.sc (.int .u64 z)) hmask)) | (exact does_int_to (z := qD (mid + kr)) rfl rfl trivial (congrArg (fun z => D.sc (.int .u64 z)) ho2)) | ((with_reducible apply does_move); (conv => lhs; whnf)) | ((with_reducible apply does_build); exact tyOk rfl; exact rfl; exact rfl; (focus repeat' (first | exact rfl | refine ⟨_, _, rfl, rfl, Nat.le_of_ble_eq_true rfl, rfl, ?_⟩)); exact rfl)) | ((first | (with_reducible apply rp1) | (with_reducible apply dr1)); first | (exact does_shl_63 (m := 1) (z := hi) rfl rfl ((Nat.one_mul _).trans hhi) hb1) | (exact does_shl_52 (m := e) (z := el) rfl rfl hel hb2) | (exact does_int_to (z := qD mid) rfl rfl trivial (congrArg (fun z => D.sc (.int .u64 z)) ho1)) | (exact does_int_to (z := qD kr) rfl rfl trivial (congrArg (fun z => D.sc (.int .u64 z)) hmask)) | (exact does_int_to (z := qD (mid + kr)) rfl rfl trivial (congrArg (fun z => D.sc (.int .u64 z)) ho2))) | ((first | (with_reducible apply rp2) | (with_reducible apply dr2)); first | (exact does_shl_63 (m := 1) (z := hi) rfl rfl ((Nat.one_mul _).trans hhi) hb1) | (exact does_shl_52 (m := e) (z := el) rfl rfl hel hb2) | (exact does_int_to (z := qD mid) rfl rfl trivial (congrArg (fun z => D.sc (.int .u64 z)) ho1)) | (exact does_int_to (z := qD kr) rfl rfl trivial (congrArg (fun z => D.sc (.int .u64 z)) hmask)) | (exact does_int_to (z := qD (mid + kr)) rfl rfl trivial (congrArg (fun z => D.sc (.int .u64 z)) ho2))) | ((first | (with_reducible apply rpN) | (with_reducible apply drN)); first | (exact does_shl_63 (m := 1) (z := hi) rfl rfl ((Nat.one_mul _).trans hhi) hb1) | (exact does_shl_52 (m := e) (z := el) rfl rfl hel hb2) | (exact does_int_to (z := qD mid) rfl rfl trivial (congrArg (fun z => D.sc (.int .u64 z)) ho1)) | (exact does_int_to (z := qD kr) rfl rfl trivial (congrArg (fun z => D.sc (.int .u64 z)) hmask)) | (exact does_int_to (z := qD (mid + kr)) rfl rfl trivial (congrArg (fun z => D.sc (.int .u64 z)) ho2)) | ((with_reducible apply does_store); exact tyOk rfl; exact rfl; exact rfl; (conv => lhs; whnf); exact rfl; exact rfl; (first | exact Nat.le_of_ble_eq_true rfl | omega | (simp; omega))) | ((with_reducible apply does_store_whole); exact tyOk rfl; exact rfl; exact rfl; exact rfl; exact rfl; exact rfl)))
          (with_reducible apply ret_ok); (focus (repeat' (first | (with_reducible apply rv_nil) | (with_reducible apply rv_cons) | ((with_reducible apply rv_tmp); exact rfl) | ((with_reducible apply rv_cell); exact rfl; exact rfl; exact tyOk rfl; exact rfl; exact rfl) | ((with_reducible apply rv_rowd); exact rfl; exact rfl; exact tyOk rfl; exact rfl; (first | (with_reducible assumption) | exact rfl | ((try simp only [List.length_map]); first | assumption | omega) | (simp; omega))) | ((with_reducible apply rv_row); exact rfl; exact rfl; exact tyOk rfl; exact rfl; (first | exact Nat.le_of_ble_eq_true rfl | omega | (simp; omega)))))); (first | exact rfl | (focus repeat' (first | exact frzVs_one (frzV_map _ _) | exact rfl | (apply frzVs_cons; (first | exact frzV_map _ _ | exact rfl))))); refine SubD.of_eq ?_
          rfl
set_option maxHeartbeats 2000000 in
theorem realsRise_pc (a b : Int) : PC Tryd.prog 5 [iD a, iD b] (bD true) := by
  obtain ⟨u, hu, p1⟩ := picked_nat a 1125899906842624 (by omega) (by omega)
  obtain ⟨v, hv, p2⟩ := picked_nat b 1125899906842624 (by omega) (by omega)
  obtain ⟨m, hm⟩ : ∃ m : Int, (u : Int) - 562949953421312 = m := ⟨_, rfl⟩
  obtain ⟨n, hn⟩ : ∃ n : Int, (v : Int) - 562949953421312 = n := ⟨_, rfl⟩
  obtain ⟨x, x1, x2, x3, x4, q1⟩ := whole_pc m (by omega)
  obtain ⟨y, y1, y2, y3, y4, q2⟩ := whole_pc n (by omega)
  have c1 := gd_cmp (.real x x1 x2 x3) (.real y y1 y2 y3)
  have c2 := gd_cmp (.int m) (.int n)
  have hW : (0 : Int) < ((2 ^ 1074 : Nat) : Int) := Int.natCast_pos.2 (Nat.two_pow_pos 1074)
  generalize ((2 ^ 1074 : Nat) : Int) = W at *
  have hlt : ∀ p q : Int, p * W < q * W ↔ p < q := fun p q => by
    constructor
    · intro h
      rcases Int.lt_or_le p q with h1 | h1
      · exact h1
      · have := Int.mul_le_mul_of_nonneg_right h1 (Int.le_of_lt hW); omega
    · exact fun h => Int.mul_lt_mul_of_pos_right h hW
  have e1 : ordV ⟨3, 0, x, .empty⟩ ⟨3, 0, y, .empty⟩ = ordV ⟨2, m, 0, .empty⟩ ⟨2, n, 0, .empty⟩ := by
    unfold ordV
    rw [less_3 (a := ⟨3, 0, x, .empty⟩) (b := ⟨3, 0, y, .empty⟩) rfl rfl, more_3 (a := ⟨3, 0, x, .empty⟩) (b := ⟨3, 0, y, .empty⟩) rfl rfl, less_n (a := ⟨2, m, 0, .empty⟩) (b := ⟨2, n, 0, .empty⟩) rfl (by show (2 : Int) ≠ 3; decide) (by show (2 : Int) ≠ 4; decide), more_n (a := ⟨2, m, 0, .empty⟩) (b := ⟨2, n, 0, .empty⟩) rfl (by show (2 : Int) ≠ 3; decide) (by show (2 : Int) ≠ 4; decide)]
    dsimp only
    rw [fltV_lss x2 y2, fltV_gtr x2 y2, x4, y4]
    have f1 : decide (m * W < n * W) = decide (m < n) := by rw [decide_eq_decide]; exact hlt m n
    have f2 : decide (m * W > n * W) = decide (m > n) := by rw [decide_eq_decide]; exact hlt n m
    rw [f1, f2]
  have e2 : ordV ⟨2, m, 0, .empty⟩ ⟨2, n, 0, .empty⟩ = if m < n then -1 else if m > n then 1 else 0 := by
    unfold ordV
    rw [less_n (a := ⟨2, m, 0, .empty⟩) (b := ⟨2, n, 0, .empty⟩) rfl (by show (2 : Int) ≠ 3; decide) (by show (2 : Int) ≠ 4; decide), more_n (a := ⟨2, m, 0, .empty⟩) (b := ⟨2, n, 0, .empty⟩) rfl (by show (2 : Int) ≠ 3; decide) (by show (2 : Int) ≠ 4; decide)]
    dsimp only
    simp only [decide_eq_true_eq]
  have hfin : (m == n || (if m < n then (-1 : Int) else if m > n then 1 else 0) != 0) = true := by
    by_cases h : m = n
    · subst h; simp
    · by_cases h2 : m < n
      · simp [h2]
      · simp [h2, show m > n by omega]
  rw [e1, e2] at c1
  rw [e2] at c2
  generalize (if m < n then (-1 : Int) else if m > n then 1 else 0) = c at *
  have d1 : PC Tryd.prog 15 [.ag [iD 3, iD 0, qD x, strD .empty], .ag [iD 3, iD 0, qD y, strD .empty]] (.tu [iD c, iD 0]) := c1
  have d2 : PC Tryd.prog 15 [.ag [iD 2, iD m, qD 0, strD .empty], .ag [iD 2, iD n, qD 0, strD .empty]] (.tu [iD c, iD 0]) := c2
  clear c1 c2 e1 e2 hlt x4 y4 hW
  refine pc_of_aw Tryd.func5 rfl (by kernel_rfl) mixed (by kernel_rfl) (by rw [Tryd.ntmps5]; exact Nat.le_of_ble_eq_true rfl) Tryd.results5 ?_
  repeat (first | (with_reducible apply aw_seq) | (with_reducible apply aw_reg) | (with_reducible apply rp_nil) | (with_reducible apply ae_norm) | (with_reducible apply aw_ret) | (with_reducible apply re_ret) | ((with_reducible apply be_other); exact rfl) | ((with_reducible apply dr_nil); first | kernel_rfl | exact rfl) | ((first | (with_reducible apply rp) | (with_reducible apply dr) | ((first | (with_reducible apply rpG) | (with_reducible apply drG)); exact rfl; (first | exact gval_t rfl | exact gval_f rfl | exact gval_gt rfl | exact gval_gf rfl); (focus repeat' (first | exact trivial | exact fun h => h | refine And.intro ?_ ?_ | (intro h; first | exact h | (simp only [Bool.and_eq_true] at h; first | exact h.1 | exact h.1.1 | exact h.1.1.1 | exact h.2) | (rw [h]; rfl) | (rw [hgd0, h]; rfl) | simp_all))); intro hgd; have hgd0 := hgd; (try simp only [decide_eq_true_eq, Bool.and_eq_true, Bool.not_eq_true', beq_iff_eq] at hgd))); first | ((with_reducible apply does_call_flat); exact rfl; exact rfl; exact (p1); exact rfl) | ((with_reducible apply does_call'); exact rfl; exact rfl; exact rfl; exact (p1)) | ((with_reducible apply does_call_flat); exact rfl; exact rfl; exact (p2); exact rfl) | ((with_reducible apply does_call'); exact rfl; exact rfl; exact rfl; exact (p2)) | (exact does_sub_to (z := m) rfl rfl hm (by omega) (by omega)) | (exact does_sub_to (z := n) rfl rfl hn (by omega) (by omega)) | ((with_reducible apply does_call_flat); exact rfl; exact rfl; exact (q1); exact rfl) | ((with_reducible apply does_call'); exact rfl; exact rfl; exact rfl; exact (q1)) | ((with_reducible apply does_call_flat); exact rfl; exact rfl; exact (q2); exact rfl) | ((with_reducible apply does_call'); exact rfl; exact rfl; exact rfl; exact (q2)) | ((with_reducible apply does_call_flat); exact rfl; exact rfl; exact (d1); exact rfl) | ((with_reducible apply does_call'); exact rfl; exact rfl; exact rfl; exact (d1)) | ((with_reducible apply does_call_flat); exact rfl; exact rfl; exact (d2); exact rfl) | ((with_reducible apply does_call'); exact rfl; exact rfl; exact rfl; exact (d2)) | ((with_reducible apply does_move); (conv => lhs; whnf)) | ((with_reducible apply does_assign); (conv => lhs; whnf)) | ((with_reducible apply does_and); exact rfl; exact rfl; exact rfl; (first | exact trivial | exact fun h => h | (intro h; first | exact h | (simp only [Bool.and_eq_true] at h; first | exact h.1 | exact h.1.1 | exact h.1.1.1 | exact h.2) | (rw [h]; rfl) | (rw [hgd0, h]; rfl) | simp_all))) | ((with_reducible apply does_or); exact rfl; exact rfl; exact rfl; (first | exact trivial | exact fun h => h | (intro h; first | exact h | (simp only [Bool.and_eq_true] at h; first | exact h.1 | exact h.1.1 | exact h.1.1.1 | exact h.2) | (rw [h]; rfl) | (rw [hgd0, h]; rfl) | simp_all))) | ((with_reducible apply does_eq); exact rfl; exact rfl) | ((with_reducible apply does_ne); exact rfl; exact rfl) | ((with_reducible apply does_extract); exact rfl; exact rfl) | ((with_reducible apply does_build); exact tyOk rfl; exact rfl; exact rfl; (focus repeat' (first | exact rfl | refine ⟨_, _, rfl, rfl, Nat.le_of_ble_eq_true rfl, rfl, ?_⟩)); exact rfl)) | ((first | (with_reducible apply rp1) | (with_reducible apply dr1)); first | ((with_reducible apply does_call1); exact rfl; exact rfl; exact rfl; exact (p1)) | ((with_reducible apply does_call1); exact rfl; exact rfl; exact rfl; exact (p2)) | (exact does_sub_to (z := m) rfl rfl hm (by omega) (by omega)) | (exact does_sub_to (z := n) rfl rfl hn (by omega) (by omega)) | ((with_reducible apply does_call1); exact rfl; exact rfl; exact rfl; exact (q1)) | ((with_reducible apply does_call1); exact rfl; exact rfl; exact rfl; exact (q2)) | ((with_reducible apply does_call1); exact rfl; exact rfl; exact rfl; exact (d1)) | ((with_reducible apply does_call1); exact rfl; exact rfl; exact rfl; exact (d2))) | ((first | (with_reducible apply rp2) | (with_reducible apply dr2)); first | (exact does_sub_to (z := m) rfl rfl hm (by omega) (by omega)) | (exact does_sub_to (z := n) rfl rfl hn (by omega) (by omega))) | ((first | (with_reducible apply rpN) | (with_reducible apply drN)); first | (exact does_sub_to (z := m) rfl rfl hm (by omega) (by omega)) | (exact does_sub_to (z := n) rfl rfl hn (by omega) (by omega))) | ((first | (with_reducible apply rpGP) | (with_reducible apply drGP)); exact rfl; (first | exact gval_t rfl | exact gval_f rfl | exact gval_gt rfl | exact gval_gf rfl); (focus repeat' (first | exact trivial | exact fun h => h | refine And.intro ?_ ?_ | (intro h; first | exact h | (simp only [Bool.and_eq_true] at h; first | exact h.1 | exact h.1.1 | exact h.1.1.1 | exact h.2) | (rw [h]; rfl) | (rw [hgd0, h]; rfl) | simp_all))); (intro hgd; have hgd0 := hgd; (try simp only [decide_eq_true_eq, Bool.and_eq_true, Bool.not_eq_true', beq_iff_eq] at hgd); first | ((with_reducible apply does_or); exact rfl; exact rfl; exact rfl; (first | exact trivial | exact fun h => h | (intro h; first | exact h | (simp only [Bool.and_eq_true] at h; first | exact h.1 | exact h.1.1 | exact h.1.1.1 | exact h.2) | (rw [h]; rfl) | (rw [hgd0, h]; rfl) | simp_all))) | ((with_reducible apply does_and); exact rfl; exact rfl; exact rfl; (first | exact trivial | exact fun h => h | (intro h; first | exact h | (simp only [Bool.and_eq_true] at h; first | exact h.1 | exact h.1.1 | exact h.1.1.1 | exact h.2) | (rw [h]; rfl) | (rw [hgd0, h]; rfl) | simp_all))))))
  (with_reducible apply ret_ok); (focus (repeat' (first | (with_reducible apply rv_nil) | (with_reducible apply rv_cons) | ((with_reducible apply rv_tmp); exact rfl) | ((with_reducible apply rv_cell); exact rfl; exact rfl; exact tyOk rfl; exact rfl; exact rfl) | ((with_reducible apply rv_rowd); exact rfl; exact rfl; exact tyOk rfl; exact rfl; (first | (with_reducible assumption) | exact rfl | ((try simp only [List.length_map]); first | assumption | omega) | (simp; omega))) | ((with_reducible apply rv_row); exact rfl; exact rfl; exact tyOk rfl; exact rfl; (first | exact Nat.le_of_ble_eq_true rfl | omega | (simp; omega)))))); (first | exact rfl | (focus repeat' (first | exact frzVs_one (frzV_map _ _) | exact rfl | (apply frzVs_cons; (first | exact frzV_map _ _ | exact rfl))))); refine SubD.of_eq ?_
  show bD ((0 : Int) == 0 && (0 : Int) == 0 && c == c && (m == n || c != 0)) = bD true
  rw [hfin]
  simp
theorem realsRise_walk (a b : Int) (w : World) (_ : I64 a) (_ : I64 b) (hg : GlOk (Lt w) w) : Calls Tryd.prog 5 #[.int .i64 a, .int .i64 b] w fun e w' => e = .returned (.bool true) ∧ Below w.heap.size w w' :=
  calls_of_pc (realsRise_pc a b) (rep_cons (rep_int w a) (rep_cons (rep_int w b) rfl)) hg
end Go.Proofs.YtclhmdobhlalmaaDoor
