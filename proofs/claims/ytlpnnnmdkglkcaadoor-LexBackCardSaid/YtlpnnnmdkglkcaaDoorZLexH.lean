/-
  strconv.FormatUint to the base of sixteen. No condition.
-/
import Derived.Test.YtlpnnnmdkglkcaaDoorZLexV
import Derived.Test.YtlpnnnmdkglkcaaDoorZC
import Derived.Test.YtlpnnnmdkglkcaaDoorZPlAr3
set_option linter.unusedSimpArgs false
set_option linter.unusedVariables false
namespace Go.Proofs.YtlpnnnmdkglkcaaDoor
open Go.RowKit

theorem pow2_pc : PC Tryd.prog 115 [iD 16] (bD true) := by
  refine qAM Tryd.func115 rfl (by kernel_rfl) mixed (by kernel_rfl) (qle (by kernel_rfl)) Tryd.results115 ?_
  repeat (first | ((first | (with_reducible apply rpGT) | (with_reducible apply drGT) | (with_reducible apply qAP) | (with_reducible apply qAO)); eq_refl; (first | exact qAo rfl | exact qAt rfl | exact qAw rfl | exact qAy rfl); (first | eq_refl | assumption | decide); (focus repeat' (first | exact trivial | exact id | apply And.intro | (intro h; (first | exact h | (simp only [Bool.and_eq_true] at h; (first | exact h.1 | exact h.1.1 | exact h.1.1.1 | exact h.2)) | (rw [h]; rfl) | (rw [zh, h]; rfl) | simp_all)))); ((first | ((with_reducible first | apply qAc | apply qAa); (conv => lhs; whnf)) | ((with_reducible first | apply qAA | apply qEC) <;> eq_refl) | ((with_reducible apply does_sub); eq_refl; eq_refl; omega; omega)); (first | exact qAh _ | exact qAp _ _ | exact qAr _ _ _ | exact qAq _ _ _ _))) | (with_reducible first | apply qAl | apply qAm | apply qAn | apply qAk | apply qAF | apply qAX) | ((with_reducible apply rp); first | ((with_reducible apply qAc); (conv => lhs; whnf)) | ((with_reducible apply qAa); (conv => lhs; whnf)) | ((with_reducible apply qAA); eq_refl; eq_refl) | ((with_reducible apply does_sub); eq_refl; eq_refl; omega; omega) | ((with_reducible apply qEC); eq_refl; eq_refl)))
  (with_reducible apply qAY); (focus (repeat' (first | (with_reducible apply qAE) | (with_reducible apply qAx) | ((with_reducible apply qAI); eq_refl)))); eq_refl; refine SubD.of_eq ?_
  rfl
section
variable {P : Program} {dst : Option Nat} {ty : TypeId} {e : Operand → A} {β : Bx} {T T' : TypeId} {x y : Operand} {b : Bool} {k k' : IntKind}
theorem qER {n z : Int} (hz : k.wrap (0 - n) = z) (hx : e x = .d (.sc (.int k n))) : Does P dst (.unOp .neg T x) ty e β (.d (.sc (.int k z))) [] [] := by
  subst hz; exact does_neg hx
theorem qCU {m n z : Int} (hz : bitV .and k m n = z) (hx : e x = .d (.sc (.int k m))) (hy : e y = .d (.sc (.int k n))) : Does P dst (.binOp .and T x y T') ty e β (.d (.sc (.int k z))) [] [] := by
  subst hz; exact qEC hx hy
theorem qEc {m n z : Int} (hz : k.wrap (m * n) = z) (hx : e x = .d (.sc (.int k m))) (hy : e y = .d (.sc (.int k n))) : Does P dst (.binOp .mul T x y T') ty e β (.d (.sc (.int k z))) [] [] := by
  subst hz; exact does_wmul hx hy
theorem qC7 {m n z : Int} (hz : m.fdiv (2 ^ (min n.toNat k.bits)) = z) (h : 0 ≤ n) (hx : e x = .d (.sc (.int k m))) (hy : e y = .d (.sc (.int k' n))) : Does P dst (.binOp .shr T x y T') ty e β (.d (.sc (.int k z))) [] [] := by
  subst hz; exact does_shr hx hy h
end
theorem tz64_pc : PC Tryd.prog 126 [qD 16] (iD 4) := by
  have h1 : IntKind.u64.wrap (0 - 16) = 18446744073709551600 := by decide
  have h2 : bitV .and .u64 16 18446744073709551600 = 16 := by decide
  have h3 : IntKind.u64.wrap (16 * 285870213051353865) = 4573923408821661840 := by decide
  have h4 : Int.fdiv 4573923408821661840 (2 ^ (min (Int.toNat 58) IntKind.u64.bits)) = 15 := by decide
  refine qAM Tryd.func126 rfl (by kernel_rfl) mixed (by kernel_rfl) (qle (by kernel_rfl)) Tryd.results126 ?_
  repeat (first | ((first | (with_reducible apply rpGT) | (with_reducible apply drGT) | (with_reducible apply qAP) | (with_reducible apply qAO)); eq_refl; (first | exact qAo rfl | exact qAt rfl | exact qAw rfl | exact qAy rfl); (first | eq_refl | assumption | decide); (focus repeat' (first | exact trivial | exact id | apply And.intro | (intro h; (first | exact h | (simp only [Bool.and_eq_true] at h; (first | exact h.1 | exact h.1.1 | exact h.1.1.1 | exact h.2)) | (rw [h]; rfl) | (rw [zh, h]; rfl) | simp_all)))); ((first | (exact qER h1 rfl) | (exact qCU h2 rfl rfl) | (exact qEc h3 rfl rfl) | (exact qC7 h4 (by decide) rfl rfl) | ((with_reducible first | apply qAc | apply qAa); (conv => lhs; whnf)) | ((with_reducible first | apply qDH | apply qAA) <;> first | ((with_reducible apply tyOk); eq_refl) | eq_refl) | ((with_reducible apply qBW); exact tyOk rfl; (iterate 3 eq_refl); (dsimp only; omega); decide; eq_refl) | ((with_reducible apply qBZ); exact tyOk rfl; exact tyOk rfl; eq_refl; eq_refl; omega; omega)); (first | exact qAh _ | exact qAp _ _ | exact qAr _ _ _ | exact qAq _ _ _ _))) | (with_reducible first | apply qAl | apply qAm | apply qAn | apply qAk | apply qAF | apply qAX | apply qAC) | ((with_reducible apply rp); first | (exact qER h1 rfl) | (exact qCU h2 rfl rfl) | (exact qEc h3 rfl rfl) | (exact qC7 h4 (by decide) rfl rfl) | ((with_reducible apply qAc); (conv => lhs; whnf)) | ((with_reducible apply qAa); (conv => lhs; whnf)) | ((with_reducible apply qDH); exact tyOk rfl; (iterate 4 eq_refl)) | ((with_reducible apply qBW); exact tyOk rfl; (iterate 3 eq_refl); (dsimp only; omega); decide; eq_refl) | ((with_reducible apply qAA); eq_refl; eq_refl) | ((with_reducible apply qBZ); exact tyOk rfl; exact tyOk rfl; eq_refl; eq_refl; omega; omega)) | ((with_reducible apply qBl); eq_refl; eq_refl))
  (with_reducible apply qAY); (focus (repeat' (first | (with_reducible apply qAE) | (with_reducible apply qAx) | ((with_reducible apply qAI); eq_refl)))); eq_refl; refine SubD.of_eq ?_
  rfl
theorem tz_pc : PC Tryd.prog 116 [qD 16] (iD 4) := by
  have h1 := tz64_pc
  have h2 : IntKind.u64.wrap 16 = 16 := by decide
  refine qAM Tryd.func116 rfl (by kernel_rfl) mixed (by kernel_rfl) (qle (by kernel_rfl)) Tryd.results116 ?_
  repeat (first | ((first | (with_reducible apply rpGT) | (with_reducible apply drGT) | (with_reducible apply qAP) | (with_reducible apply qAO)); eq_refl; (first | exact qAo rfl | exact qAt rfl | exact qAw rfl | exact qAy rfl); (first | eq_refl | assumption | decide); (focus repeat' (first | exact trivial | exact id | apply And.intro | (intro h; (first | exact h | (simp only [Bool.and_eq_true] at h; (first | exact h.1 | exact h.1.1 | exact h.1.1.1 | exact h.2)) | (rw [h]; rfl) | (rw [zh, h]; rfl) | simp_all)))); ((first | ((with_reducible apply qAd); eq_refl; eq_refl; exact (h1); eq_refl) | ((with_reducible first | apply qAc | apply qAa); (conv => lhs; whnf))); (first | exact qAh _ | exact qAp _ _ | exact qAr _ _ _ | exact qAq _ _ _ _))) | (with_reducible first | apply qAl | apply qAm | apply qAn | apply qAk | apply qAF | apply qAX | apply qAC) | ((with_reducible apply rp); first | ((with_reducible apply qAd); eq_refl; eq_refl; exact (h1); eq_refl) | ((with_reducible apply qAc); (conv => lhs; whnf)) | ((with_reducible apply qAa); (conv => lhs; whnf))) | ((with_reducible apply qBl); eq_refl; eq_refl))
  (with_reducible apply qAY); (focus (repeat' (first | (with_reducible apply qAE) | (with_reducible apply qAx) | ((with_reducible apply qAI); eq_refl)))); eq_refl; refine SubD.of_eq ?_
  rfl
abbrev digs36 : ByteArray := ⟨#[48, 49, 50, 51, 52, 53, 54, 55, 56, 57, 97, 98, 99, 100, 101, 102, 103, 104, 105, 106, 107, 108, 109, 110, 111, 112, 113, 114, 115, 116, 117, 118, 119, 120, 121, 122]⟩
theorem digs_at {n : Nat} (h : n < 16) : digs36.data[n]? = some (hexD n) := by
  have : ∀ n : Fin 16, digs36.data[n.val]? = some (hexD n.val) := by decide
  exact this ⟨n, h⟩
theorem set_drop {l : List UInt8} {j : Nat} {c : UInt8} (h : j < l.length) : (l.set j c).drop j = c :: l.drop (j + 1) := by
  rw [List.drop_eq_getElem_cons (by rw [List.length_set]; exact h), List.getElem_set_self, List.drop_set_of_lt (by omega)]
theorem band15 (u : Nat) (h : u < 18446744073709551616) : bitV .and .u64 (u : Int) 15 = ((u % 16 : Nat) : Int) := by
  have e0 : ∀ z : Nat, z < 18446744073709551616 → (BitVec.ofInt 64 (z : Int)).toNat = z := fun z hz => by rw [BitVec.ofInt_natCast, BitVec.toNat_ofNat]; exact Nat.mod_eq_of_lt (by omega)
  show IntKind.u64.wrap ((BitVec.ofInt 64 (u : Int) &&& BitVec.ofInt 64 (((15 : Nat) : Nat) : Int)).toNat : Int) = _
  rw [BitVec.toNat_and, e0 _ h, e0 _ (by decide), show u &&& 15 = u % 16 from Nat.and_two_pow_sub_one_eq_mod u 4, IntKind.wrap_u64]
  omega
set_option maxHeartbeats 8000000 in
theorem fmtBits_pc (b : Nat) (hb : b < 18446744073709551616) : PC Tryd.prog 100 [.nl, qD b, iD 16, bD false, bD false] (.tu [.nl, strD (byS (qBP b))]) := by
  have p2 := pow2_pc
  have tz := tz_pc
  refine qAM Tryd.func100 rfl (by kernel_rfl) mixed (by kernel_rfl) (qle (by kernel_rfl)) Tryd.results100 ?_
  repeat (first | ((first | (with_reducible apply rpGT) | (with_reducible apply drGT) | (with_reducible apply qAP) | (with_reducible apply qAO)); eq_refl; exact qAt rfl; (first | eq_refl | assumption | decide); (focus repeat' (first | exact trivial | apply And.intro)); ((first | ((with_reducible apply qAd); eq_refl; eq_refl; (first | exact (p2) | exact (tz)); eq_refl) | (exact qEk (l := List.replicate 65 0) (tyOk rfl) rfl rfl) | ((with_reducible first | apply qAc | apply qAa); (conv => lhs; whnf)) | ((with_reducible first | apply qAz | apply qAA | apply qBm | apply qBE | apply qED | apply qBS) <;> first | ((with_reducible apply tyOk); eq_refl) | eq_refl | exact trivial)); (first | exact qAh _ | exact qAp _ _ | exact qAr _ _ _ | exact qAq _ _ _ _))) | (with_reducible first | apply qAl | apply qAm | apply qAn | apply qAk | apply qAs | apply qAC) | ((with_reducible apply rp); first | ((with_reducible apply qAd); eq_refl; eq_refl; exact (p2); eq_refl) | ((with_reducible apply qAd); eq_refl; eq_refl; exact (tz); eq_refl) | ((with_reducible apply qAc); (conv => lhs; whnf)) | ((with_reducible apply qAa); (conv => lhs; whnf)) | ((with_reducible apply qAz); (iterate 3 eq_refl); exact trivial) | ((with_reducible apply qAA); eq_refl; eq_refl) | ((with_reducible apply qBm); eq_refl; eq_refl) | ((with_reducible apply qBE); eq_refl; eq_refl) | ((with_reducible apply qED); eq_refl; eq_refl) | ((with_reducible apply qBS); exact tyOk rfl; exact tyOk rfl; eq_refl; eq_refl)) | ((with_reducible apply rp1); (exact qEk (l := List.replicate 65 0) (tyOk rfl) rfl rfl)) | ((with_reducible apply qBl); eq_refl; eq_refl) | ((with_reducible apply qBr); eq_refl; eq_refl))
  refine qB5 (fun m st => ∃ (u i : Nat) (l : List UInt8), u < 16 ^ (i - 49) ∧ i ≤ 65 ∧ 50 ≤ i ∧ l.length = 65 ∧ u < 18446744073709551616 ∧ qBP b = qBP u ++ l.drop i ∧ u = m ∧ st = ⟨[(1, .d (qD u)), (3, .d (bD false)), (4, .d (bD false)), (10, .d .nl), (12, .px 12 0), (13, .d (iD (i : Nat))), (14, .d (qD 4)), (15, .d (qD 16)), (16, .d (qD 15))], [(12, .var 160 ((l.map u8D).map A.d))]⟩) _ _ ?_ ⟨b, 65, List.replicate 65 0, by simpa using hb, by omega, by omega, by simp, hb, by simp, rfl, rfl⟩ ?_
  · refine qAT [] (by repeat' (first | exact qA0 | (refine qAH rfl (by exact SubA.refl _) ?_))) (by repeat' (first | exact trivial | eq_refl | apply And.intro)) rfl (insS rfl) (by repeat' (first | exact trivial | exact qBu _ | exact qBc rfl | apply And.intro))
  · rintro m st ⟨u, i, l, hu, hi, hi2, hl, hu2, hh, rfl, rfl⟩
    rcases Nat.lt_or_ge u 16 with hlt | hge
    · have hg : decide ((u : Int) ≥ ((16 : Nat) : Int)) = false := decide_eq_false (by omega)
      have hdg := digs_at hlt
      have hfin : (l.set (i - 1) (hexD u)).drop (i - 1) = qBP b := by
        rw [set_drop (by omega), hh, qEd hlt, show i - 1 + 1 = i by omega]
        rfl
      have hll : (l.set (i - 1) (hexD u)).length = 65 := by rw [List.length_set]; exact hl
      generalize hexD u = c at *
      generalize qBP b = R at *
      repeat (first | ((first | (with_reducible apply rpGT) | (with_reducible apply drGT) | (with_reducible apply qAP) | (with_reducible apply qAO)); eq_refl; (first | exact qAo rfl | exact qAt rfl | exact qAw rfl | exact qAy rfl); (first | eq_refl | assumption | decide); (focus repeat' (first | exact trivial | exact id | apply And.intro | (intro h; (first | exact h | (simp only [Bool.and_eq_true] at h; (first | exact h.1 | exact h.1.1 | exact h.1.1.1 | exact h.2)) | (rw [h]; rfl) | (rw [zh, h]; rfl) | simp_all)))); ((first | (exact qAR hg rfl rfl) | (exact qBj (z := ((i - 1 : Nat) : Int)) (by omega) (by omega) (by omega) rfl rfl) | (exact qCA (j := i - 1) (by omega) (by omega) (tyOk rfl) rfl rfl rfl rfl) | (exact qDe (lo := i - 1) (tyOk rfl) rfl rfl rfl (by omega) rfl hll hfin) | ((with_reducible first | apply qAc | apply qAa); (conv => lhs; whnf)) | ((with_reducible apply qBW); exact tyOk rfl; (iterate 3 eq_refl); omega; decide; eq_refl) | ((with_reducible apply qAj); exact tyOk rfl; (iterate 4 eq_refl); assumption) | ((with_reducible apply qCa); exact tyOk rfl; eq_refl; exact tyOk rfl; eq_refl; exact tyOk rfl; eq_refl; eq_refl)); (first | exact qAh _ | exact qAp _ _ | exact qAr _ _ _ | exact qAq _ _ _ _))) | (with_reducible first | apply qAl | apply qAm | apply qAn | apply qAk | apply qBJ | apply qBL | apply qBK | apply qAF | apply qAX | apply qAC) | ((with_reducible apply rp); first | (exact qAR hg rfl rfl) | (exact qBj (z := ((i - 1 : Nat) : Int)) (by omega) (by omega) (by omega) rfl rfl) | ((with_reducible apply qAc); (conv => lhs; whnf)) | ((with_reducible apply qAa); (conv => lhs; whnf)) | ((with_reducible apply qBW); exact tyOk rfl; (iterate 3 eq_refl); omega; decide; eq_refl) | ((with_reducible apply qAj); exact tyOk rfl; (iterate 4 eq_refl); assumption) | ((with_reducible apply qCa); exact tyOk rfl; eq_refl; exact tyOk rfl; eq_refl; exact tyOk rfl; eq_refl; eq_refl)) | ((with_reducible apply rp1); (exact qDe (lo := i - 1) (tyOk rfl) rfl rfl rfl (by omega) rfl hll hfin)) | ((with_reducible apply rpN); (exact qCA (j := i - 1) (by omega) (by omega) (tyOk rfl) rfl rfl rfl rfl)) | ((with_reducible apply qBl); eq_refl; eq_refl))
      (with_reducible apply qAY); (focus (repeat' (first | (with_reducible apply qAE) | (with_reducible apply qAx) | ((with_reducible apply qAI); eq_refl)))); eq_refl; refine SubD.of_eq ?_
      rfl
    · have hg : decide ((u : Int) ≥ ((16 : Nat) : Int)) = true := decide_eq_true (by omega)
      have hi3 : 51 ≤ i := by
        rcases Nat.lt_or_ge i 51 with h | h
        · obtain rfl : i = 50 := by omega
          simp at hu; omega
        · exact h
      have hu3 : u / 16 < 16 ^ (i - 1 - 49) := by
        rw [show i - 49 = (i - 1 - 49) + 1 by omega, Nat.pow_succ] at hu
        omega
      have hdg := digs_at (Nat.mod_lt u (by decide : 0 < 16))
      have hb15 := band15 u hu2
      have hsh : Int.fdiv (u : Int) (2 ^ (min (Int.toNat 4) IntKind.u64.bits)) = ((u / 16 : Nat) : Int) := by
        have e1 : min (Int.toNat 4) IntKind.u64.bits = 4 := rfl
        rw [e1]
        show Int.fdiv (u : Int) ((16 : Nat) : Int) = _
        rw [Int.fdiv_eq_ediv_of_nonneg _ (by omega)]
        rfl
      have hnew : qBP b = qBP (u / 16) ++ (l.set (i - 1) (hexD (u % 16))).drop (i - 1) := by
        rw [set_drop (by omega), hh, hexMin_big (by omega), show i - 1 + 1 = i by omega, List.append_assoc]
        rfl
      have hll : (l.set (i - 1) (hexD (u % 16))).length = 65 := by rw [List.length_set]; exact hl
      generalize hexD (u % 16) = c at *
      repeat (first | ((first | (with_reducible apply rpGT) | (with_reducible apply drGT) | (with_reducible apply qAP) | (with_reducible apply qAO)); eq_refl; (first | exact qAo rfl | exact qAt rfl | exact qAw rfl | exact qAy rfl); (first | eq_refl | assumption | decide); (focus repeat' (first | exact trivial | exact id | apply And.intro | (intro h; (first | exact h | (simp only [Bool.and_eq_true] at h; (first | exact h.1 | exact h.1.1 | exact h.1.1.1 | exact h.2)) | (rw [h]; rfl) | (rw [zh, h]; rfl) | simp_all)))); ((first | (exact qAR hg rfl rfl) | (exact qBj (z := ((i - 1 : Nat) : Int)) (by omega) (by omega) (by omega) rfl rfl) | (exact qCU hb15 rfl rfl) | (exact qC7 hsh (by decide) rfl rfl) | (exact qCA (j := i - 1) (by omega) (by omega) (tyOk rfl) rfl rfl rfl rfl) | ((with_reducible first | apply qAc | apply qAa); (conv => lhs; whnf)) | ((with_reducible apply qBW); exact tyOk rfl; (iterate 3 eq_refl); omega; decide; eq_refl) | ((with_reducible apply qAj); exact tyOk rfl; (iterate 4 eq_refl); assumption)); (first | exact qAh _ | exact qAp _ _ | exact qAr _ _ _ | exact qAq _ _ _ _))) | (with_reducible first | apply qAl | apply qAm | apply qAn | apply qAk | apply qAs | apply qA2 | apply qAC) | ((with_reducible apply rp); first | (exact qAR hg rfl rfl) | (exact qBj (z := ((i - 1 : Nat) : Int)) (by omega) (by omega) (by omega) rfl rfl) | (exact qCU hb15 rfl rfl) | (exact qC7 hsh (by decide) rfl rfl) | ((with_reducible apply qAc); (conv => lhs; whnf)) | ((with_reducible apply qAa); (conv => lhs; whnf)) | ((with_reducible apply qBW); exact tyOk rfl; (iterate 3 eq_refl); omega; decide; eq_refl) | ((with_reducible apply qAj); exact tyOk rfl; (iterate 4 eq_refl); assumption)) | ((with_reducible apply rpN); (exact qCA (j := i - 1) (by omega) (by omega) (tyOk rfl) rfl rfl rfl rfl)) | ((with_reducible apply qBr); eq_refl; eq_refl))
      refine ⟨_, _, ?_, ?_, u / 16, i - 1, l.set (i - 1) c, hu3, by omega, by omega, hll, by omega, hnew, rfl, rfl⟩
      · omega
      · refine qAT [] (by repeat' (first | exact qA0 | (refine qAH rfl (by exact SubA.refl _) ?_))) (by repeat' (first | exact trivial | exact kb_d rfl | apply And.intro)) rfl (insS rfl) (by repeat' (first | exact trivial | exact qBu _ | exact qBc rfl | apply And.intro))
theorem fmtU_pc (b : Nat) (hb : b < 18446744073709551616) : PC Tryd.prog 49 [qD b, iD 16] (strD (byS (qBP b))) := by
  have f1 := fmtBits_pc b hb
  have f2 : PC Tryd.prog 78 [qD b, iD 16] (strD (byS (qBP b))) := by
    refine qAM Tryd.func78 rfl (by kernel_rfl) mixed (by kernel_rfl) (qle (by kernel_rfl)) Tryd.results78 ?_
    repeat (first | ((first | (with_reducible apply rpGT) | (with_reducible apply drGT) | (with_reducible apply qAP) | (with_reducible apply qAO)); eq_refl; (first | exact qAo rfl | exact qAt rfl | exact qAw rfl | exact qAy rfl); (first | eq_refl | assumption | decide); (focus repeat' (first | exact trivial | exact id | apply And.intro | (intro h; (first | exact h | (simp only [Bool.and_eq_true] at h; (first | exact h.1 | exact h.1.1 | exact h.1.1.1 | exact h.2)) | (rw [h]; rfl) | (rw [zh, h]; rfl) | simp_all)))); ((first | ((with_reducible apply qAd); eq_refl; eq_refl; exact (f1); eq_refl) | ((with_reducible first | apply qAc | apply qAa); (conv => lhs; whnf)) | ((with_reducible first | apply qAA | apply qAv) <;> eq_refl)); (first | exact qAh _ | exact qAp _ _ | exact qAr _ _ _ | exact qAq _ _ _ _))) | (with_reducible first | apply qAl | apply qAm | apply qAn | apply qAk | apply qAF | apply qAX | apply qAC) | ((with_reducible apply rp); first | ((with_reducible apply qAd); eq_refl; eq_refl; exact (f1); eq_refl) | ((with_reducible apply qAc); (conv => lhs; whnf)) | ((with_reducible apply qAa); (conv => lhs; whnf)) | ((with_reducible apply qAA); eq_refl; eq_refl) | ((with_reducible apply qAv); eq_refl; eq_refl)) | ((with_reducible apply qBl); eq_refl; eq_refl))
    (with_reducible apply qAY); (focus (repeat' (first | (with_reducible apply qAE) | (with_reducible apply qAx) | ((with_reducible apply qAI); eq_refl)))); eq_refl; refine SubD.of_eq ?_
    rfl
  refine qAM Tryd.func49 rfl (by kernel_rfl) mixed (by kernel_rfl) (qle (by kernel_rfl)) Tryd.results49 ?_
  repeat (first | ((first | (with_reducible apply rpGT) | (with_reducible apply drGT) | (with_reducible apply qAP) | (with_reducible apply qAO)); eq_refl; (first | exact qAo rfl | exact qAt rfl | exact qAw rfl | exact qAy rfl); (first | eq_refl | assumption | decide); (focus repeat' (first | exact trivial | exact id | apply And.intro | (intro h; (first | exact h | (simp only [Bool.and_eq_true] at h; (first | exact h.1 | exact h.1.1 | exact h.1.1.1 | exact h.2)) | (rw [h]; rfl) | (rw [zh, h]; rfl) | simp_all)))); ((first | ((with_reducible apply qAd); eq_refl; eq_refl; exact (f2); eq_refl) | ((with_reducible first | apply qAc | apply qAa); (conv => lhs; whnf))); (first | exact qAh _ | exact qAp _ _ | exact qAr _ _ _ | exact qAq _ _ _ _))) | (with_reducible first | apply qAl | apply qAm | apply qAn | apply qAk | apply qAF | apply qAX) | ((with_reducible apply rp); first | ((with_reducible apply qAd); eq_refl; eq_refl; exact (f2); eq_refl) | ((with_reducible apply qAc); (conv => lhs; whnf)) | ((with_reducible apply qAa); (conv => lhs; whnf))))
  (with_reducible apply qAY); (focus (repeat' (first | (with_reducible apply qAE) | (with_reducible apply qAx) | ((with_reducible apply qAI); eq_refl)))); eq_refl; refine SubD.of_eq ?_
  rfl
end Go.Proofs.YtlpnnnmdkglkcaaDoor

