/-
  lex.show, lex.Check of what may be, lex.Show. No condition but that the tokens may be.
-/
import Derived.Test.YtlpnnnmdkglkcaaDoorZLexH
set_option linter.unusedSimpArgs false
set_option linter.unusedVariables false
namespace Go.Proofs.YtlpnnnmdkglkcaaDoor
open Go.RowKit

theorem byS_app (a b : List UInt8) : byS a ++ byS b = byS (a ++ b) := by
  refine ByteArray.ext (Array.ext' ?_)
  rw [ByteArray.data_append, Array.toList_append]
theorem qDW (l : List UInt8) : (byS l).size = l.length := qDK l
section
variable {P : Program} {dst : Option Nat} {ty : TypeId} {e : Operand → A} {β : Bx} {T T' : TypeId} {x y : Operand}
theorem qBo {a b c : List UInt8} (hc : a ++ b = c) (hl : c.length ≤ 1000000) (hx : e x = .d (strD (byS a))) (hy : e y = .d (strD (byS b))) : Does P dst (.binOp .add T x y T') ty e β (.d (strD (byS c))) [] [] := by
  subst hc
  have h := does_cat (P := P) (dst := dst) (ty := ty) (β := β) (T := T) (T' := T') hx hy (by rw [qDW, qDW]; rw [List.length_append] at hl; omega)
  rwa [byS_app] at h
end
theorem nd_le : ∀ (k u : Nat), u < 10 ^ (k + 1) → Lib.nDigits u ≤ k + 1
  | 0, u, h => by rw [Lib.nDigits_small (by simpa using h)]; exact Nat.le_refl _
  | k + 1, u, h => by
    by_cases hu : u < 10
    · rw [Lib.nDigits_small hu]; omega
    · rw [Lib.nDigits_big hu]
      have := nd_le k (u / 10) (by rw [Nat.pow_succ] at h; omega)
      omega
theorem dbl_le : ∀ b : List UInt8, (dblL b).length ≤ 2 * b.length
  | [] => Nat.le_refl _
  | c :: b => by
    have := dbl_le b
    rw [dblL]
    split <;> simp only [List.length_cons] <;> omega
theorem qEf {s : ByteArray} (h : s ∈ qBH) : s.data.toList.length ≤ 2 := by
  unfold qBH at h
  simp only [List.mem_cons, List.not_mem_nil, or_false] at h
  rcases h with rfl | rfl | rfl | rfl | rfl | rfl | rfl | rfl | rfl | rfl | rfl | rfl | rfl | rfl | rfl | rfl <;> simp
theorem shwT_len {t : Tk} (h : TkL t) : (shwT t).length ≤ 90 := by
  cases h with
  | name n h =>
    obtain ⟨_, _, _, _, h8, _⟩ := qDX h
    show n.data.toList.length ≤ _
    rw [← qDg]; omega
  | word n h =>
    have := h.2.1
    show n.data.toList.length ≤ _
    rw [← qDg]; omega
  | num n h =>
    show (Lib.decDigits (Int.toNat (n : Int))).length ≤ _
    rw [Lib.decDigits_length, Int.toNat_natCast]
    have := nd_le 18 n (by omega)
    omega
  | quote b h1 h2 =>
    show (39 :: (dblL b.data.toList ++ [39])).length ≤ _
    have := dbl_le b.data.toList
    rw [← qDg] at this
    simp only [List.length_cons, List.length_append, List.length_nil]
    omega
  | hex b h1 h2 =>
    show (35 :: hexL 16 b).length ≤ _
    rw [List.length_cons, qCT]
    omega
  | sign s h =>
    have := qEf h
    show s.data.toList.length ≤ _
    omega
set_option maxHeartbeats 4000000 in
theorem show_pc (t : Tk) (h : TkL t) : PC Tryd.prog 29 [.ag t.cs] (strD (byS (shwT t))) := by
  cases h with
  | name n h =>
    show PC _ _ [.ag [iD 1, strD n, iD 0, qD 0]] (strD (byS n.data.toList))
    rw [show byS n.data.toList = n from ba_eta n]
    refine qAM Tryd.func29 rfl (by kernel_rfl) mixed (by kernel_rfl) (qle (by kernel_rfl)) Tryd.results29 ?_
    repeat (first | ((first | (with_reducible apply rpGT) | (with_reducible apply drGT) | (with_reducible apply qAP) | (with_reducible apply qAO)); eq_refl; (first | exact qAo rfl | exact qAt rfl | exact qAw rfl | exact qAy rfl); (first | eq_refl | assumption | decide); (focus repeat' (first | exact trivial | exact id | apply And.intro | (intro h; (first | exact h | (simp only [Bool.and_eq_true] at h; (first | exact h.1 | exact h.1.1 | exact h.1.1.1 | exact h.2)) | (rw [h]; rfl) | (rw [zh, h]; rfl) | simp_all)))); ((first | ((with_reducible apply qAa); (conv => lhs; whnf)) | ((with_reducible first | apply qAb | apply qAe | apply qAA | apply qAB) <;> first | ((with_reducible apply tyOk); eq_refl) | eq_refl | decide)); (first | exact qAh _ | exact qAp _ _ | exact qAr _ _ _ | exact qAq _ _ _ _))) | (with_reducible first | apply qAl | apply qAm | apply qAn | apply qAk | apply qAs | apply qA2 | apply qAF | apply qAX | apply qAC) | ((with_reducible apply rp); first | ((with_reducible apply qAa); (conv => lhs; whnf)) | ((with_reducible apply qAb); exact tyOk rfl; eq_refl; eq_refl; decide; eq_refl) | ((with_reducible apply qAe); exact tyOk rfl; (iterate 4 eq_refl)) | ((with_reducible apply qAA); eq_refl; eq_refl)) | ((with_reducible apply rp1); ((with_reducible apply qAB); eq_refl; eq_refl)) | ((with_reducible apply qBl); eq_refl; eq_refl))
    (with_reducible apply qAY); (focus (repeat' (first | (with_reducible apply qAE) | (with_reducible apply qAx) | ((with_reducible apply qAI); eq_refl)))); eq_refl; refine SubD.of_eq ?_
    rfl
  | word n h =>
    show PC _ _ [.ag [iD 2, strD n, iD 0, qD 0]] (strD (byS n.data.toList))
    rw [show byS n.data.toList = n from ba_eta n]
    refine qAM Tryd.func29 rfl (by kernel_rfl) mixed (by kernel_rfl) (qle (by kernel_rfl)) Tryd.results29 ?_
    repeat (first | ((first | (with_reducible apply rpGT) | (with_reducible apply drGT) | (with_reducible apply qAP) | (with_reducible apply qAO)); eq_refl; (first | exact qAo rfl | exact qAt rfl | exact qAw rfl | exact qAy rfl); (first | eq_refl | assumption | decide); (focus repeat' (first | exact trivial | exact id | apply And.intro | (intro h; (first | exact h | (simp only [Bool.and_eq_true] at h; (first | exact h.1 | exact h.1.1 | exact h.1.1.1 | exact h.2)) | (rw [h]; rfl) | (rw [zh, h]; rfl) | simp_all)))); ((first | ((with_reducible apply qAa); (conv => lhs; whnf)) | ((with_reducible first | apply qAb | apply qAe | apply qAA | apply qAB) <;> first | ((with_reducible apply tyOk); eq_refl) | eq_refl | decide)); (first | exact qAh _ | exact qAp _ _ | exact qAr _ _ _ | exact qAq _ _ _ _))) | (with_reducible first | apply qAl | apply qAm | apply qAn | apply qAk | apply qAs | apply qA2 | apply qAF | apply qAX | apply qAC) | ((with_reducible apply rp); first | ((with_reducible apply qAa); (conv => lhs; whnf)) | ((with_reducible apply qAb); exact tyOk rfl; eq_refl; eq_refl; decide; eq_refl) | ((with_reducible apply qAe); exact tyOk rfl; (iterate 4 eq_refl)) | ((with_reducible apply qAA); eq_refl; eq_refl)) | ((with_reducible apply rp1); ((with_reducible apply qAB); eq_refl; eq_refl)) | ((with_reducible apply qBl); eq_refl; eq_refl))
    (with_reducible apply qAY); (focus (repeat' (first | (with_reducible apply qAE) | (with_reducible apply qAx) | ((with_reducible apply qAI); eq_refl)))); eq_refl; refine SubD.of_eq ?_
    rfl
  | num n h =>
    have p1 := itoa_pc (n : Int) (by omega) (by omega)
    rw [Lib.itoa_nonneg] at p1
    show PC _ _ [.ag [iD 3, strD .empty, iD (n : Nat), qD 0]] (strD (byS (Lib.decDigits (Int.toNat (n : Int)))))
    rw [Int.toNat_natCast]
    refine qAM Tryd.func29 rfl (by kernel_rfl) mixed (by kernel_rfl) (qle (by kernel_rfl)) Tryd.results29 ?_
    repeat (first | ((first | (with_reducible apply rpGT) | (with_reducible apply drGT) | (with_reducible apply qAP) | (with_reducible apply qAO)); eq_refl; (first | exact qAo rfl | exact qAt rfl | exact qAw rfl | exact qAy rfl); (first | eq_refl | assumption | decide); (focus repeat' (first | exact trivial | exact id | apply And.intro | (intro h; (first | exact h | (simp only [Bool.and_eq_true] at h; (first | exact h.1 | exact h.1.1 | exact h.1.1.1 | exact h.2)) | (rw [h]; rfl) | (rw [zh, h]; rfl) | simp_all)))); ((first | ((with_reducible apply qAd); eq_refl; eq_refl; exact (p1); eq_refl) | ((with_reducible apply qAa); (conv => lhs; whnf)) | ((with_reducible first | apply qAb | apply qAe | apply qAA | apply qAB) <;> first | ((with_reducible apply tyOk); eq_refl) | eq_refl | decide)); (first | exact qAh _ | exact qAp _ _ | exact qAr _ _ _ | exact qAq _ _ _ _))) | (with_reducible first | apply qAl | apply qAm | apply qAn | apply qAk | apply qAs | apply qAF | apply qBs | apply qBN | apply qAX) | ((with_reducible apply rp); first | ((with_reducible apply qAd); eq_refl; eq_refl; exact (p1); eq_refl) | ((with_reducible apply qAa); (conv => lhs; whnf)) | ((with_reducible apply qAb); exact tyOk rfl; eq_refl; eq_refl; decide; eq_refl) | ((with_reducible apply qAe); exact tyOk rfl; (iterate 4 eq_refl)) | ((with_reducible apply qAA); eq_refl; eq_refl)) | ((with_reducible apply rp1); ((with_reducible apply qAB); eq_refl; eq_refl)) | ((with_reducible apply qBr); eq_refl; eq_refl))
    (with_reducible apply qAY); (focus (repeat' (first | (with_reducible apply qAE) | (with_reducible apply qAx) | ((with_reducible apply qAI); eq_refl)))); eq_refl; refine SubD.of_eq ?_
    rfl
  | quote b h1 h2 =>
    have p1 := replaceAll_pc b (by omega)
    have hl := dbl_le b.data.toList
    rw [← qDg] at hl
    show PC _ _ [.ag [iD 4, strD b, iD 0, qD 0]] (strD (byS (39 :: (dblL b.data.toList ++ [39]))))
    generalize dblL b.data.toList = d at *
    refine qAM Tryd.func29 rfl (by kernel_rfl) mixed (by kernel_rfl) (qle (by kernel_rfl)) Tryd.results29 ?_
    repeat (first | ((first | (with_reducible apply rpGT) | (with_reducible apply drGT) | (with_reducible apply qAP) | (with_reducible apply qAO)); eq_refl; (first | exact qAo rfl | exact qAt rfl | exact qAw rfl | exact qAy rfl); (first | eq_refl | assumption | decide); (focus repeat' (first | exact trivial | exact id | apply And.intro | (intro h; (first | exact h | (simp only [Bool.and_eq_true] at h; (first | exact h.1 | exact h.1.1 | exact h.1.1.1 | exact h.2)) | (rw [h]; rfl) | (rw [zh, h]; rfl) | simp_all)))); ((first | ((with_reducible apply qAd); eq_refl; eq_refl; exact (p1); eq_refl) | (exact qBo (a := [39]) (b := d) rfl (by simp; omega) rfl rfl) | (exact qBo (a := 39 :: d) (b := [39]) rfl (by simp; omega) rfl rfl) | ((with_reducible apply qAa); (conv => lhs; whnf)) | ((with_reducible first | apply qAb | apply qAe | apply qAA | apply qAB) <;> first | ((with_reducible apply tyOk); eq_refl) | eq_refl | decide)); (first | exact qAh _ | exact qAp _ _ | exact qAr _ _ _ | exact qAq _ _ _ _))) | (with_reducible first | apply qAl | apply qAm | apply qAn | apply qAk | apply qAs | apply qAF | apply qBs | apply qBN | apply qAX) | ((with_reducible apply rp); first | ((with_reducible apply qAd); eq_refl; eq_refl; exact (p1); eq_refl) | (exact qBo (a := [39]) (b := d) rfl (by simp; omega) rfl rfl) | (exact qBo (a := 39 :: d) (b := [39]) rfl (by simp; omega) rfl rfl) | ((with_reducible apply qAa); (conv => lhs; whnf)) | ((with_reducible apply qAb); exact tyOk rfl; eq_refl; eq_refl; decide; eq_refl) | ((with_reducible apply qAe); exact tyOk rfl; (iterate 4 eq_refl)) | ((with_reducible apply qAA); eq_refl; eq_refl)) | ((with_reducible apply rp1); ((with_reducible apply qAB); eq_refl; eq_refl)) | ((with_reducible apply qBl); eq_refl; eq_refl) | ((with_reducible apply qBr); eq_refl; eq_refl))
    (with_reducible apply qAY); (focus (repeat' (first | (with_reducible apply qAE) | (with_reducible apply qAx) | ((with_reducible apply qAI); eq_refl)))); eq_refl; refine SubD.of_eq ?_
    rfl
  | hex b h1 h2 =>
    have p1 := fmtU_pc b h1
    obtain ⟨hl, hp⟩ := hexMin_pad 16 b (by decide) (by omega)
    have p2 := repeat_pc ⟨#[48]⟩ (16 - (qBP b).length) (by show 1 * _ ≤ _; omega) (by omega)
    have p2 : PC Tryd.prog 50 [strD ⟨#[48]⟩, iD (16 - (qBP b).length : Nat)] (strD (byS (Lib.repeatL [48] (16 - (qBP b).length)))) := p2
    rw [qDR] at p2
    have hz := qDW (qBP b)
    have h3 := qCT 16 b
    show PC _ _ [.ag [iD 5, strD .empty, iD 0, qD b]] (strD (byS (35 :: hexL 16 b)))
    have hrl : (List.replicate (16 - (qBP b).length) (48 : UInt8)).length = 16 - (qBP b).length := List.length_replicate
    generalize List.replicate (16 - (qBP b).length) (48 : UInt8) = z at *
    generalize qBP b = hm at *
    generalize hexL 16 b = R at *
    refine qAM Tryd.func29 rfl (by kernel_rfl) mixed (by kernel_rfl) (qle (by kernel_rfl)) Tryd.results29 ?_
    repeat (first | ((first | (with_reducible apply rpGT) | (with_reducible apply drGT) | (with_reducible apply qAP) | (with_reducible apply qAO)); eq_refl; (first | exact qAo rfl | exact qAt rfl | exact qAw rfl | exact qAy rfl); (first | eq_refl | assumption | decide); (focus repeat' (first | exact trivial | exact id | apply And.intro | (intro h; (first | exact h | (simp only [Bool.and_eq_true] at h; (first | exact h.1 | exact h.1.1 | exact h.1.1.1 | exact h.2)) | (rw [h]; rfl) | (rw [zh, h]; rfl) | simp_all)))); ((first | ((with_reducible apply qAd); eq_refl; eq_refl; (first | exact (p1) | exact (p2)); eq_refl) | (exact qBj (z := ((16 - hm.length : Nat) : Int)) (by omega) (by omega) (by omega) rfl rfl) | (exact qBo (a := [35]) (b := z) rfl (by simp; omega) rfl rfl) | (exact qBo (a := 35 :: z) (b := hm) (c := 35 :: R) (by rw [← hp]; rfl) (by simp; omega) rfl rfl) | ((with_reducible first | apply qAc | apply qAa); (conv => lhs; whnf)) | ((with_reducible first | apply qAb | apply qAe | apply qAA | apply qAg | apply qAB) <;> first | ((with_reducible apply tyOk); eq_refl) | eq_refl | decide)); (first | exact qAh _ | exact qAp _ _ | exact qAr _ _ _ | exact qAq _ _ _ _))) | (with_reducible first | apply qAl | apply qAm | apply qAn | apply qAk | apply qAs | apply qAF | apply qBs | apply qBN | apply qAX) | ((with_reducible apply rp); first | ((with_reducible apply qAd); eq_refl; eq_refl; exact (p1); eq_refl) | ((with_reducible apply qAd); eq_refl; eq_refl; exact (p2); eq_refl) | (exact qBj (z := ((16 - hm.length : Nat) : Int)) (by omega) (by omega) (by omega) rfl rfl) | (exact qBo (a := [35]) (b := z) rfl (by simp; omega) rfl rfl) | (exact qBo (a := 35 :: z) (b := hm) (c := 35 :: R) (by rw [← hp]; rfl) (by simp; omega) rfl rfl) | ((with_reducible apply qAc); (conv => lhs; whnf)) | ((with_reducible apply qAa); (conv => lhs; whnf)) | ((with_reducible apply qAb); exact tyOk rfl; eq_refl; eq_refl; decide; eq_refl) | ((with_reducible apply qAe); exact tyOk rfl; (iterate 4 eq_refl)) | ((with_reducible apply qAA); eq_refl; eq_refl) | ((with_reducible apply qAg); exact tyOk rfl; eq_refl; eq_refl)) | ((with_reducible apply rp1); ((with_reducible apply qAB); eq_refl; eq_refl)) | ((with_reducible apply qBl); eq_refl; eq_refl) | ((with_reducible apply qBr); eq_refl; eq_refl))
    (with_reducible apply qAY); (focus (repeat' (first | (with_reducible apply qAE) | (with_reducible apply qAx) | ((with_reducible apply qAI); eq_refl)))); eq_refl; refine SubD.of_eq ?_
    rfl
  | sign s h =>
    show PC _ _ [.ag [iD 6, strD s, iD 0, qD 0]] (strD (byS s.data.toList))
    rw [show byS s.data.toList = s from ba_eta s]
    refine qAM Tryd.func29 rfl (by kernel_rfl) mixed (by kernel_rfl) (qle (by kernel_rfl)) Tryd.results29 ?_
    repeat (first | ((first | (with_reducible apply rpGT) | (with_reducible apply drGT) | (with_reducible apply qAP) | (with_reducible apply qAO)); eq_refl; (first | exact qAo rfl | exact qAt rfl | exact qAw rfl | exact qAy rfl); (first | eq_refl | assumption | decide); (focus repeat' (first | exact trivial | exact id | apply And.intro | (intro h; (first | exact h | (simp only [Bool.and_eq_true] at h; (first | exact h.1 | exact h.1.1 | exact h.1.1.1 | exact h.2)) | (rw [h]; rfl) | (rw [zh, h]; rfl) | simp_all)))); ((first | ((with_reducible apply qAa); (conv => lhs; whnf)) | ((with_reducible first | apply qAb | apply qAe | apply qAA | apply qAB) <;> first | ((with_reducible apply tyOk); eq_refl) | eq_refl | decide)); (first | exact qAh _ | exact qAp _ _ | exact qAr _ _ _ | exact qAq _ _ _ _))) | (with_reducible first | apply qAl | apply qAm | apply qAn | apply qAk | apply qAs | apply qA2 | apply qAF | apply qAX | apply qAC) | ((with_reducible apply rp); first | ((with_reducible apply qAa); (conv => lhs; whnf)) | ((with_reducible apply qAb); exact tyOk rfl; eq_refl; eq_refl; decide; eq_refl) | ((with_reducible apply qAe); exact tyOk rfl; (iterate 4 eq_refl)) | ((with_reducible apply qAA); eq_refl; eq_refl)) | ((with_reducible apply rp1); ((with_reducible apply qAB); eq_refl; eq_refl)) | ((with_reducible apply qBl); eq_refl; eq_refl))
    (with_reducible apply qAY); (focus (repeat' (first | (with_reducible apply qAE) | (with_reducible apply qAx) | ((with_reducible apply qAI); eq_refl)))); eq_refl; refine SubD.of_eq ?_
    rfl
theorem lexCheckL_pc (t : Tk) (h : TkL t) : PC Tryd.prog 17 [.ag t.cs] (iD 0) := by
  cases h with
  | name n h => exact qCI _ (.name n h)
  | word n h => exact qCI _ (.word n h)
  | num n h => exact qCI _ (.num n (by omega))
  | quote b h1 h2 => exact qCI _ (.quote b h1 h2)
  | hex b h1 h2 =>
    have c1 := check_pc ⟨3, 0, b, .empty⟩ (by show ByteArray.empty.size ≤ _; decide)
    have h3 : chkV ⟨3, 0, b, .empty⟩ = 0 := h2
    rw [h3] at c1
    have c1 : PC Tryd.prog 37 [.ag [iD 3, iD 0, qD b, strD .empty]] (iD (0 : Nat)) := c1
    show PC _ _ [.ag [iD 5, strD .empty, iD 0, qD b]] _
    refine qAM Tryd.func17 rfl (by kernel_rfl) mixed (by kernel_rfl) (qle (by kernel_rfl)) Tryd.results17 ?_
    repeat (first | ((first | (with_reducible apply rpGT) | (with_reducible apply drGT) | (with_reducible apply qAP) | (with_reducible apply qAO)); eq_refl; (first | exact qAo rfl | exact qAt rfl); (first | eq_refl | assumption | decide); (focus repeat' (first | exact trivial | exact id | apply And.intro | (intro h; simp_all))); ((first | ((with_reducible apply qAd); eq_refl; eq_refl; exact (c1); eq_refl) | ((with_reducible first | apply qAc | apply qAa); (conv => lhs; whnf)) | ((with_reducible apply qAz); (iterate 3 eq_refl); (first | exact trivial | exact id)) | ((with_reducible apply qA6); (iterate 3 eq_refl); (first | exact trivial | exact id)) | ((with_reducible first | apply qAb | apply qAe | apply qAA | apply qBq | apply qBm | apply qBE | apply qBn | apply qAg | apply qAB) <;> first | ((with_reducible apply tyOk); eq_refl) | eq_refl | decide) | ((with_reducible apply qBO); eq_refl; eq_refl) | ((with_reducible apply qAQ); exact tyOk rfl; eq_refl; eq_refl; (focus repeat' (first | eq_refl | refine ⟨_, _, rfl, rfl, qle rfl, rfl, ?_⟩)); eq_refl)); (first | exact qAh _ | exact qAp _ _ | exact qAr _ _ _ | exact qAq _ _ _ _))) | (with_reducible first | apply qAl | apply qAm | apply qAn | apply qAk | apply qAs | apply qA2 | apply qAF | apply qAX | apply qAC) | ((first | (with_reducible apply rp) | ((with_reducible apply rpG); eq_refl; (first | exact qAo rfl | exact qAt rfl); (focus repeat' (first | exact trivial | exact id | apply And.intro | (intro h; simp_all))); intro zg; have zh := zg; (try simp only [zs1, zs2, zs3, zs4] at zg))); first | ((with_reducible apply qAd); eq_refl; eq_refl; exact (c1); eq_refl) | ((with_reducible first | apply qAc | apply qAa); (conv => lhs; whnf)) | ((with_reducible apply qAz); (iterate 3 eq_refl); (first | exact trivial | exact id)) | ((with_reducible apply qA6); (iterate 3 eq_refl); (first | exact trivial | exact id)) | ((with_reducible first | apply qAb | apply qAe | apply qAA | apply qBq | apply qBm | apply qBE | apply qBn | apply qAg) <;> first | ((with_reducible apply tyOk); eq_refl) | eq_refl | decide) | ((with_reducible apply qBO); eq_refl; eq_refl) | ((with_reducible apply qAQ); exact tyOk rfl; eq_refl; eq_refl; (focus repeat' (first | eq_refl | refine ⟨_, _, rfl, rfl, qle rfl, rfl, ?_⟩)); eq_refl)) | ((with_reducible apply rp1); ((with_reducible apply qAB); eq_refl; eq_refl)) | ((with_reducible apply qA7); eq_refl; (focus (intro hd; (first | (cases hd; done) | (exfalso; simp at hd; done)))); (intro hd; clear hd)) | ((with_reducible apply qA7); eq_refl; rotate_left; (focus (intro hd; (first | (cases hd; done) | (exfalso; simp at hd; done)))); (intro hd; clear hd)) | ((first | (with_reducible apply rpGP) | (with_reducible apply drGP)); eq_refl; (first | exact qAo rfl | exact qAt rfl); (focus repeat' (first | exact trivial | exact id | apply And.intro | (intro h; simp_all))); (intro zg; have zh := zg; (try simp only [zs1, zs2, zs3, zs4] at zg); first | ((with_reducible apply qA6); (iterate 3 eq_refl); (first | exact trivial | exact id)) | ((with_reducible apply qAz); (iterate 3 eq_refl); (first | exact trivial | exact id)))))
    (with_reducible apply qAY); (focus (repeat' (first | (with_reducible apply qAE) | (with_reducible apply qAx) | ((with_reducible apply qAI); eq_refl)))); eq_refl; refine SubD.of_eq ?_
    rfl
  | sign s h => exact qCI _ (.sign s h)
theorem join_snoc (t : Tk) : ∀ l : List Tk, qBG (l ++ [t]) = if l = [] then shwT t else qBG l ++ 32 :: shwT t
  | [] => rfl
  | [u] => rfl
  | u :: v :: l => by
    have ih := join_snoc t (v :: l)
    rw [if_neg (by simp)] at ih ⊢
    show shwT u ++ 32 :: qBG ((v :: l) ++ [t]) = (shwT u ++ 32 :: qBG (v :: l)) ++ 32 :: shwT t
    rw [ih, List.append_assoc]
    rfl
theorem join_le : ∀ T : List Tk, (∀ t ∈ T, TkL t) → (qBG T).length ≤ 91 * T.length
  | [], _ => Nat.le_refl _
  | [t], h => by
    have := shwT_len (h t (by simp))
    show (shwT t).length ≤ 91 * 1
    omega
  | t :: u :: T, h => by
    have h1 := shwT_len (h t (by simp))
    have h2 := join_le (u :: T) fun x hx => h x (by simp [hx])
    rw [qBG, List.length_append]
    simp only [List.length_cons] at *
    omega
def shD (T : List Tk) : D := if 300 < (qBG T).length then .tu [strD .empty, iD 1] else .tu [strD (byS (qBG T)), iD 0]
set_option maxHeartbeats 4000000 in
theorem lexShow_pc (T : List Tk) (h : ∀ t ∈ T, TkL t) (hl : T.length ≤ 100) : PC Tryd.prog 14 [toksD T] (shD T) := by
  have hg : decide ((T.length : Int) > 100) = false := decide_eq_false (by omega)
  have hjl : ∀ k, (qBG (T.take k)).length ≤ 9100 := fun k => by
    have := join_le (T.take k) fun t ht => h t (List.mem_of_mem_take ht)
    rw [List.length_take] at this
    omega
  refine qAM Tryd.func14 rfl (by kernel_rfl) mixed (by kernel_rfl) (qle (by kernel_rfl)) Tryd.results14 ?_
  repeat (first | ((first | (with_reducible apply rpGT) | (with_reducible apply drGT) | (with_reducible apply qAP) | (with_reducible apply qAO)); eq_refl; (first | exact qAo rfl | exact qAt rfl | exact qAw rfl | exact qAy rfl); (first | eq_refl | assumption | decide); (focus repeat' (first | exact trivial | exact id | apply And.intro | (intro h; (first | exact h | (simp only [Bool.and_eq_true] at h; (first | exact h.1 | exact h.1.1 | exact h.1.1.1 | exact h.2)) | (rw [h]; rfl) | (rw [zh, h]; rfl) | simp_all)))); ((first | (exact qAZ hg rfl rfl) | ((with_reducible first | apply qAc | apply qAa); (conv => lhs; whnf)) | ((with_reducible apply qBY); exact tyOk rfl; eq_refl; eq_refl)); (first | exact qAh _ | exact qAp _ _ | exact qAr _ _ _ | exact qAq _ _ _ _))) | (with_reducible first | apply qAl | apply qAm | apply qAn | apply qAk | apply qAs | apply qAC) | ((with_reducible apply rp); first | (exact qAZ hg rfl rfl) | ((with_reducible apply qAc); (conv => lhs; whnf)) | ((with_reducible apply qAa); (conv => lhs; whnf)) | ((with_reducible apply qBY); exact tyOk rfl; eq_refl; eq_refl)) | ((with_reducible apply qBl); eq_refl; eq_refl))
  refine qB5 (fun m st => ∃ k : Nat, k ≤ T.length ∧ T.length - k = m ∧ st = ⟨[(4, .d (strD (byS (qBG (T.take k))))), (11, .d (toksD T)), (12, .d (iD T.length)), (13, .d (iD (k : Nat)))], []⟩) _ _ ?_ ⟨0, Nat.zero_le _, rfl, rfl⟩ ?_
  · refine qAT [] (by repeat' (first | exact qA0 | (refine qAH rfl (by exact SubA.refl _) ?_))) (kpX rfl) rfl (insS rfl) (insX rfl)
  · rintro m st ⟨k, hk, rfl, rfl⟩
    rcases Nat.lt_or_ge k T.length with hlt | hge
    · have hll : decide ((k : Int) < (T.length : Nat)) = true := decide_eq_true (by omega)
      obtain ⟨t, ht⟩ : ∃ t, T[k]? = some t := ⟨_, List.getElem?_eq_getElem hlt⟩
      have htk := h t (List.mem_of_getElem? ht)
      have hgt : (T.map Tk.cs)[k]? = some t.cs := by rw [List.getElem?_map, ht]; rfl
      have s1 := show_pc t htk
      have c1 := lexCheckL_pc t htk
      have hsl := shwT_len htk
      have hj := hjl k
      have hn : qBG (T.take (k + 1)) = if T.take k = [] then shwT t else qBG (T.take k) ++ 32 :: shwT t := by
        rw [List.take_add_one, ht]
        exact join_snoc t (T.take k)
      obtain ⟨tk, tt, tn, tb⟩ := t
      have s2 : PC Tryd.prog 29 [.ag [iD tk, strD tt, iD tn, qD tb]] (strD (byS (shwT ⟨tk, tt, tn, tb⟩))) := s1
      have c2 : PC Tryd.prog 17 [.ag [iD tk, strD tt, iD tn, qD tb]] (iD 0) := c1
      have hgt2 : (T.map Tk.cs)[k]? = some [iD tk, strD tt, iD tn, qD tb] := hgt
      clear s1 c1 hgt ht htk
      generalize shwT ⟨tk, tt, tn, tb⟩ = sh at *
      cases k with
      | zero =>
        have hk0 : decide (((0 : Nat) : Int) > 0) = false := rfl
        have hn2 : qBG (T.take (0 + 1)) = sh := hn
        have hz : qBG (T.take 0) = [] := rfl
        rw [hz]
        repeat (first | ((first | (with_reducible apply rpGT) | (with_reducible apply drGT) | (with_reducible apply qAP) | (with_reducible apply qAO)); eq_refl; (first | exact qAo rfl | exact qAt rfl | exact qAw rfl | exact qAy rfl); (first | eq_refl | assumption | decide); (focus repeat' (first | exact trivial | exact id | apply And.intro | (intro h; (first | exact h | (simp only [Bool.and_eq_true] at h; (first | exact h.1 | exact h.1.1 | exact h.1.1.1 | exact h.2)) | (rw [h]; rfl) | (rw [zh, h]; rfl) | simp_all)))); ((first | (exact qA4 hll rfl rfl) | (exact qAZ hk0 rfl rfl) | ((with_reducible apply qAd); eq_refl; eq_refl; (first | exact (c2) | exact (s2)); eq_refl) | (exact qBo (a := []) (b := sh) (c := sh) rfl (by omega) rfl rfl) | ((with_reducible first | apply qAc | apply qAa); (conv => lhs; whnf)) | ((with_reducible first | apply qAU | apply qBq | apply qAu | apply qAf) <;> first | ((with_reducible apply tyOk); eq_refl) | eq_refl | exact qle rfl) | ((with_reducible apply qA3); exact tyOk rfl; eq_refl; eq_refl; assumption; eq_refl) | ((with_reducible apply qBv); exact tyOk rfl; eq_refl; exact tyOk rfl; (iterate 4 eq_refl); (simp only [List.length_map, List.length_append, List.length_cons, List.length_nil] at *; omega)) | ((with_reducible apply qA1); eq_refl; eq_refl; omega; omega)); (first | exact qAh _ | exact qAp _ _ | exact qAr _ _ _ | exact qAq _ _ _ _))) | (with_reducible first | apply qAl | apply qAm | apply qAn | apply qAk | apply qAs | apply qA2 | apply qAC) | ((with_reducible apply rp); first | (exact qA4 hll rfl rfl) | (exact qAZ hk0 rfl rfl) | ((with_reducible apply qAd); eq_refl; eq_refl; exact (c2); eq_refl) | ((with_reducible apply qAd); eq_refl; eq_refl; exact (s2); eq_refl) | (exact qBo (a := []) (b := sh) (c := sh) rfl (by omega) rfl rfl) | ((with_reducible apply qAc); (conv => lhs; whnf)) | ((with_reducible apply qAa); (conv => lhs; whnf)) | ((with_reducible apply qAU); exact tyOk rfl; (iterate 3 eq_refl); exact qle rfl; eq_refl) | ((with_reducible apply qA3); exact tyOk rfl; eq_refl; eq_refl; assumption; eq_refl) | ((with_reducible apply qBv); exact tyOk rfl; eq_refl; exact tyOk rfl; (iterate 4 eq_refl); (simp only [List.length_map, List.length_append, List.length_cons, List.length_nil] at *; omega)) | ((with_reducible apply qBq); eq_refl; eq_refl) | ((with_reducible apply qA1); eq_refl; eq_refl; omega; omega)) | ((with_reducible apply rp1); ((with_reducible apply qAu); exact tyOk rfl; eq_refl)) | ((with_reducible apply rpN); ((with_reducible apply qAf); exact tyOk rfl; (iterate 5 eq_refl))) | ((with_reducible apply qBl); eq_refl; eq_refl) | ((with_reducible apply qBr); eq_refl; eq_refl))
        refine ⟨_, _, ?_, ?_, 0 + 1, by omega, rfl, rfl⟩
        · omega
        · rw [hn2]
          refine qAT [] (by repeat' (first | exact qA0 | (refine qAH rfl (by exact SubA.refl _) ?_))) (kpX rfl) rfl (insS rfl) (insX rfl)
      | succ j =>
        have hk0 : decide (((j + 1 : Nat) : Int) > 0) = true := decide_eq_true (by omega)
        rw [if_neg (fun e => by have h9 := congrArg List.length e; rw [List.length_take] at h9; have h10 : min (j + 1) T.length = 0 := h9; omega)] at hn
        generalize qBG (T.take (j + 1)) = J at *
        repeat (first | ((first | (with_reducible apply rpGT) | (with_reducible apply drGT) | (with_reducible apply qAP) | (with_reducible apply qAO)); eq_refl; (first | exact qAo rfl | exact qAt rfl | exact qAw rfl | exact qAy rfl); (first | eq_refl | assumption | decide); (focus repeat' (first | exact trivial | exact id | apply And.intro | (intro h; (first | exact h | (simp only [Bool.and_eq_true] at h; (first | exact h.1 | exact h.1.1 | exact h.1.1.1 | exact h.2)) | (rw [h]; rfl) | (rw [zh, h]; rfl) | simp_all)))); ((first | (exact qA4 hll rfl rfl) | (exact qAZ hk0 rfl rfl) | ((with_reducible apply qAd); eq_refl; eq_refl; (first | exact (c2) | exact (s2)); eq_refl) | (exact qBo (a := J) (b := [32]) rfl (by simp; omega) rfl rfl) | (exact qBo (a := J ++ [32]) (b := sh) (c := J ++ 32 :: sh) (by simp) (by simp; omega) rfl rfl) | ((with_reducible first | apply qAc | apply qAa); (conv => lhs; whnf)) | ((with_reducible first | apply qAU | apply qBq | apply qAu | apply qAf) <;> first | ((with_reducible apply tyOk); eq_refl) | eq_refl | exact qle rfl) | ((with_reducible apply qA3); exact tyOk rfl; eq_refl; eq_refl; assumption; eq_refl) | ((with_reducible apply qBv); exact tyOk rfl; eq_refl; exact tyOk rfl; (iterate 4 eq_refl); (simp only [List.length_map, List.length_append, List.length_cons, List.length_nil] at *; omega)) | ((with_reducible apply qA1); eq_refl; eq_refl; omega; omega)); (first | exact qAh _ | exact qAp _ _ | exact qAr _ _ _ | exact qAq _ _ _ _))) | (with_reducible first | apply qAl | apply qAm | apply qAn | apply qAk | apply qAs | apply qA2 | apply qAC) | ((with_reducible apply rp); first | (exact qA4 hll rfl rfl) | (exact qAZ hk0 rfl rfl) | ((with_reducible apply qAd); eq_refl; eq_refl; exact (c2); eq_refl) | ((with_reducible apply qAd); eq_refl; eq_refl; exact (s2); eq_refl) | (exact qBo (a := J) (b := [32]) rfl (by simp; omega) rfl rfl) | (exact qBo (a := J ++ [32]) (b := sh) (c := J ++ 32 :: sh) (by simp) (by simp; omega) rfl rfl) | ((with_reducible apply qAc); (conv => lhs; whnf)) | ((with_reducible apply qAa); (conv => lhs; whnf)) | ((with_reducible apply qAU); exact tyOk rfl; (iterate 3 eq_refl); exact qle rfl; eq_refl) | ((with_reducible apply qA3); exact tyOk rfl; eq_refl; eq_refl; assumption; eq_refl) | ((with_reducible apply qBv); exact tyOk rfl; eq_refl; exact tyOk rfl; (iterate 4 eq_refl); (simp only [List.length_map, List.length_append, List.length_cons, List.length_nil] at *; omega)) | ((with_reducible apply qBq); eq_refl; eq_refl) | ((with_reducible apply qA1); eq_refl; eq_refl; omega; omega)) | ((with_reducible apply rp1); ((with_reducible apply qAu); exact tyOk rfl; eq_refl)) | ((with_reducible apply rpN); ((with_reducible apply qAf); exact tyOk rfl; (iterate 5 eq_refl))) | ((with_reducible apply qBl); eq_refl; eq_refl) | ((with_reducible apply qBr); eq_refl; eq_refl))
        refine ⟨_, _, ?_, ?_, j + 1 + 1, by omega, rfl, rfl⟩
        · omega
        · rw [hn]
          refine qAT [] (by repeat' (first | exact qA0 | (refine qAH rfl (by exact SubA.refl _) ?_))) (kpX rfl) rfl (insS rfl) (insX rfl)
    · obtain rfl : k = T.length := by omega
      have hll : decide ((T.length : Int) < (T.length : Nat)) = false := decide_eq_false (by omega)
      have hz := qDW (qBG T)
      unfold shD
      rw [List.take_length]
      by_cases h3 : 300 < (qBG T).length
      · have hg3 : decide (((byS (qBG T)).size : Int) > 300) = true := decide_eq_true (by omega)
        rw [if_pos h3]
        generalize qBG T = J at *
        repeat (first | ((first | (with_reducible apply rpGT) | (with_reducible apply drGT) | (with_reducible apply qAP) | (with_reducible apply qAO)); eq_refl; (first | exact qAo rfl | exact qAt rfl | exact qAw rfl | exact qAy rfl); (first | eq_refl | assumption | decide); (focus repeat' (first | exact trivial | exact id | apply And.intro | (intro h; (first | exact h | (simp only [Bool.and_eq_true] at h; (first | exact h.1 | exact h.1.1 | exact h.1.1.1 | exact h.2)) | (rw [h]; rfl) | (rw [zh, h]; rfl) | simp_all)))); ((first | (exact qA4 hll rfl rfl) | (exact qAZ hg3 rfl rfl) | ((with_reducible first | apply qAc | apply qAa); (conv => lhs; whnf)) | ((with_reducible apply qAg); exact tyOk rfl; eq_refl; eq_refl)); (first | exact qAh _ | exact qAp _ _ | exact qAr _ _ _ | exact qAq _ _ _ _))) | (with_reducible first | apply qAl | apply qAm | apply qAn | apply qAk | apply qBJ | apply qBL | apply qBK | apply qAF | apply qBs | apply qAX) | ((with_reducible apply rp); first | (exact qA4 hll rfl rfl) | (exact qAZ hg3 rfl rfl) | ((with_reducible apply qAc); (conv => lhs; whnf)) | ((with_reducible apply qAa); (conv => lhs; whnf)) | ((with_reducible apply qAg); exact tyOk rfl; eq_refl; eq_refl)) | ((with_reducible apply qBl); eq_refl; eq_refl) | ((with_reducible apply qBr); eq_refl; eq_refl))
        (with_reducible apply qAY); (focus (repeat' (first | (with_reducible apply qAE) | (with_reducible apply qAx) | ((with_reducible apply qAI); eq_refl)))); eq_refl; refine SubD.of_eq ?_
        rfl
      · have hg3 : decide (((byS (qBG T)).size : Int) > 300) = false := decide_eq_false (by omega)
        rw [if_neg h3]
        generalize qBG T = J at *
        repeat (first | ((first | (with_reducible apply rpGT) | (with_reducible apply drGT) | (with_reducible apply qAP) | (with_reducible apply qAO)); eq_refl; (first | exact qAo rfl | exact qAt rfl | exact qAw rfl | exact qAy rfl); (first | eq_refl | assumption | decide); (focus repeat' (first | exact trivial | exact id | apply And.intro | (intro h; (first | exact h | (simp only [Bool.and_eq_true] at h; (first | exact h.1 | exact h.1.1 | exact h.1.1.1 | exact h.2)) | (rw [h]; rfl) | (rw [zh, h]; rfl) | simp_all)))); ((first | (exact qA4 hll rfl rfl) | (exact qAZ hg3 rfl rfl) | ((with_reducible first | apply qAc | apply qAa); (conv => lhs; whnf)) | ((with_reducible apply qAg); exact tyOk rfl; eq_refl; eq_refl)); (first | exact qAh _ | exact qAp _ _ | exact qAr _ _ _ | exact qAq _ _ _ _))) | (with_reducible first | apply qAl | apply qAm | apply qAn | apply qAk | apply qBJ | apply qBL | apply qBK | apply qAF | apply qAX | apply qAC) | ((with_reducible apply rp); first | (exact qA4 hll rfl rfl) | (exact qAZ hg3 rfl rfl) | ((with_reducible apply qAc); (conv => lhs; whnf)) | ((with_reducible apply qAa); (conv => lhs; whnf)) | ((with_reducible apply qAg); exact tyOk rfl; eq_refl; eq_refl)) | ((with_reducible apply qBl); eq_refl; eq_refl))
        (with_reducible apply qAY); (focus (repeat' (first | (with_reducible apply qAE) | (with_reducible apply qAx) | ((with_reducible apply qAI); eq_refl)))); eq_refl; refine SubD.of_eq ?_
        rfl
end Go.Proofs.YtlpnnnmdkglkcaaDoor

