/-
  chirograph/eval: what an expression made ready says of a row, as contracts. No condition but that the expression and the row may be.
-/
import Derived.Test.YtpaccaojgbfjdaaDoorZEv3
import Derived.Test.YtpaccaojgbfjdaaDoorZJ
set_option linter.unusedSimpArgs false
set_option linter.unusedVariables false
namespace Go.Proofs.YtpaccaojgbfjdaaDoor
open Go.RowKit
open Go.Lib

theorem findI_lt {n : ByteArray} : ∀ {cols : List Cl} {k i : Nat}, qF7 n k cols = some i → i < k + cols.length
  | c :: l, k, i, h => by
    unfold qF7 at h
    split at h
    · simp only [Option.some.injEq] at h; rw [List.length_cons]; omega
    · have := findI_lt h; rw [List.length_cons]; omega
structure OfP (th : Value) (row r : D) : Prop where
  is : ∃ (T : TypeId) (v : Value) (f : FuncId) (d0 : D), th = .iface T v ∧ (∀ (x a1 : Value) (w : World), (invoke (.fn (.method "chirograph/eval.of") #[]) #[.iface T x, a1]).run Tryd.prog w = .ok (.enter f #[x, a1]) w) ∧ (∀ I w, RepD I w d0 v) ∧ PC Tryd.prog f [d0, row] r
theorem inv_fixed (x a1 : Value) (w : World) : (invoke (.fn (.method "chirograph/eval.of") #[]) #[.iface 154 x, a1]).run Tryd.prog w = .ok (.enter 155 #[x, a1]) w := by kernel_rfl
theorem inv_place (x a1 : Value) (w : World) : (invoke (.fn (.method "chirograph/eval.of") #[]) #[.iface 156 x, a1]).run Tryd.prog w = .ok (.enter 156 #[x, a1]) w := by kernel_rfl
theorem inv_missing (x a1 : Value) (w : World) : (invoke (.fn (.method "chirograph/eval.of") #[]) #[.iface 158 x, a1]).run Tryd.prog w = .ok (.enter 157 #[x, a1]) w := by kernel_rfl
theorem inv_sole (x a1 : Value) (w : World) : (invoke (.fn (.method "chirograph/eval.of") #[]) #[.iface 150 x, a1]).run Tryd.prog w = .ok (.enter 131 #[x, a1]) w := by kernel_rfl
theorem inv_twin (x a1 : Value) (w : World) : (invoke (.fn (.method "chirograph/eval.of") #[]) #[.iface 152 x, a1]).run Tryd.prog w = .ok (.enter 136 #[x, a1]) w := by kernel_rfl
theorem repC_scs {I : Nat → Prop} {w : World} : ∀ {l : List Value}, (∀ v ∈ l, v.oneCell' = true) → RepC I w true (l.map .sc) l
  | [], _ => rfl
  | v :: l, h => ⟨v, l, rfl, fun _ => rfl, ⟨rfl, h v (by simp)⟩, repC_scs fun u hu => h u (by simp [hu])⟩
theorem qEC {I : Nat → Prop} {w : World} {l : List Value} (h : ∀ v ∈ l, v.oneCell' = true) : RepD I w (.ag (l.map .sc)) (.agg l.toArray) := ⟨l.toArray, rfl, by simpa using repC_scs h⟩
theorem eof_lit (cols : List Cl) (row : D) (v : Vl) : OfP (thF cols (.lit v)) row (tvD ⟨v, 0⟩) := by
  obtain ⟨k, n, b, t⟩ := v
  refine ⟨_, _, _, .ag [iD k, iD n, qD b, strD t], rfl, inv_fixed, fun I w => qEC (l := [.int .i64 k, .int .i64 n, .int .u64 (b : Int), .string t]) (by intro v hv; simp at hv; rcases hv with rfl | rfl | rfl | rfl <;> rfl), ?_⟩
  refine qAs Tryd.func155 rfl (by kernel_rfl) mixed (by kernel_rfl) (qle (by kernel_rfl)) Tryd.results155 ?_
  repeat (first | (with_reducible first | apply qAj | apply qAi | apply qAh | apply qAf | apply qAu | apply qAz) | ((with_reducible apply rp); first | ((with_reducible apply qAa); (conv => lhs; whnf)) | ((with_reducible apply qAc); exact tyOk rfl; eq_refl; eq_refl; decide; eq_refl) | ((with_reducible apply qAl); exact tyOk rfl; (iterate 3 eq_refl); exact qle rfl; eq_refl)) | ((with_reducible apply rp1); first | ((with_reducible apply qAp); eq_refl; eq_refl) | ((with_reducible apply qAk); exact tyOk rfl; eq_refl)) | ((with_reducible apply rpN); ((with_reducible apply qAb); exact tyOk rfl; (iterate 5 eq_refl))))
  (with_reducible apply qAA); (focus (repeat' (first | (with_reducible apply qAv) | (with_reducible apply qAq) | ((with_reducible apply qAD); eq_refl) | ((with_reducible apply qAy); eq_refl; eq_refl; exact tyOk rfl; eq_refl; eq_refl)))); eq_refl; refine SubD.of_eq ?_
  rfl
theorem of_place (i : Nat) (row : List Vl) (v : Vl) (hv : row[i]? = some v) (hr : row.length ≤ 1000000) : PC Tryd.prog 156 [.ag [iD i], qBx row] (tvD ⟨v, 0⟩) := by
  have hi : i < row.length := (List.getElem?_eq_some_iff.1 hv).1
  have hg : (row.map Vl.cs)[i]? = some v.cs := by rw [List.getElem?_map, hv]; rfl
  obtain ⟨k, n, b, t⟩ := v
  unfold Vl.cs at hg
  unfold tvD
  dsimp only at *
  refine qAs Tryd.func156 rfl (by kernel_rfl) mixed (by kernel_rfl) (qle (by kernel_rfl)) Tryd.results156 ?_
  repeat (first | (with_reducible first | apply qAj | apply qAi | apply qAh | apply qAf | apply qAu | apply qAz) | ((with_reducible apply rp); first | ((with_reducible apply qAd); (conv => lhs; whnf)) | ((with_reducible apply qAa); (conv => lhs; whnf)) | ((with_reducible apply qAc); exact tyOk rfl; eq_refl; eq_refl; decide; eq_refl) | ((with_reducible apply qAe); exact tyOk rfl; (iterate 4 eq_refl)) | ((with_reducible apply qAE); exact tyOk rfl; eq_refl; eq_refl; assumption; eq_refl) | ((with_reducible apply qAH); exact tyOk rfl; eq_refl; exact tyOk rfl; (iterate 4 eq_refl); (simp only [List.length_map, List.length_append, List.length_cons, List.length_nil] at *; omega))) | ((with_reducible apply rp1); first | ((with_reducible apply qAp); eq_refl; eq_refl) | ((with_reducible apply qAk); exact tyOk rfl; eq_refl)) | ((with_reducible apply rpN); ((with_reducible apply qAb); exact tyOk rfl; (iterate 5 eq_refl))))
  (with_reducible apply qAA); (focus (repeat' (first | (with_reducible apply qAv) | (with_reducible apply qAq) | ((with_reducible apply qAD); eq_refl) | ((with_reducible apply qAy); eq_refl; eq_refl; exact tyOk rfl; eq_refl; eq_refl)))); eq_refl; refine SubD.of_eq ?_
  rfl
theorem of_missing (row : D) : PC Tryd.prog 157 [.ag [], row] (tvD (.bad 5)) := by
  refine qAs Tryd.func157 rfl (by kernel_rfl) mixed (by kernel_rfl) (qle (by kernel_rfl)) Tryd.results157 ?_
  repeat (first | (with_reducible first | apply qAj | apply qAi | apply qAh | apply qAf | apply qAu | apply qAz) | ((with_reducible apply rp); first | ((with_reducible apply qAa); (conv => lhs; whnf)) | ((with_reducible apply qAV); exact tyOk rfl; eq_refl; eq_refl)) | ((with_reducible apply rp1); first | ((with_reducible apply qAp); eq_refl; eq_refl) | ((with_reducible apply qAk); exact tyOk rfl; eq_refl)) | ((with_reducible apply rpN); ((with_reducible apply qAb); exact tyOk rfl; (iterate 5 eq_refl))))
  (with_reducible apply qAA); (focus (repeat' (first | (with_reducible apply qAv) | (with_reducible apply qAq) | ((with_reducible apply qAD); eq_refl) | ((with_reducible apply qAy); eq_refl; eq_refl; exact tyOk rfl; eq_refl; eq_refl)))); eq_refl; refine SubD.of_eq ?_
  rfl
theorem of_sole (op : Nat) (hop : un1 op) (th : Value) (row : D) (t : Tv) (ht : Gd t.v) (h : OfP th row (tvD t)) : PC Tryd.prog 131 [.ag [iD op, .sc th], row] (tvD (if t.e = 0 then oneF op t.v else .bad t.e)) := by
  obtain ⟨T, v, f, d0, rfl, hi, hd, hp⟩ := h
  have o1 := one_pc op hop ht
  obtain ⟨⟨k, n, b, tx⟩, e⟩ := t
  generalize oneF op _ = r at *
  obtain ⟨⟨rk, rn, rb, rt⟩, re⟩ := r
  unfold tvD Vl.cs at *
  dsimp only at *
  clear ht hop
  by_cases he : e = 0
  · subst he
    rw [if_pos rfl]
    refine qAs Tryd.func131 rfl (by kernel_rfl) mixed (by kernel_rfl) (qle (by kernel_rfl)) Tryd.results131 ?_
    repeat (first | (with_reducible first | apply qAj | apply qAi | apply qAh | apply qAf | apply qAu | apply qAz | apply qAm) | ((with_reducible apply rp); first | (exact qBV rfl hi hd rfl hp) | ((with_reducible apply qAg); eq_refl; eq_refl; exact (o1); eq_refl) | ((with_reducible apply qAd); (conv => lhs; whnf)) | ((with_reducible apply qAa); (conv => lhs; whnf)) | ((with_reducible apply qAc); exact tyOk rfl; eq_refl; eq_refl; decide; eq_refl) | ((with_reducible apply qAe); exact tyOk rfl; (iterate 4 eq_refl)) | ((with_reducible apply qAl); exact tyOk rfl; (iterate 3 eq_refl); exact qle rfl; eq_refl) | ((with_reducible apply qAU); eq_refl; eq_refl) | ((with_reducible apply qAt); eq_refl; eq_refl)) | ((with_reducible apply rp1); first | ((with_reducible apply qAp); eq_refl; eq_refl) | ((with_reducible apply qAk); exact tyOk rfl; eq_refl)) | ((with_reducible apply rpN); ((with_reducible apply qAb); exact tyOk rfl; (iterate 5 eq_refl))) | ((with_reducible apply qA6); eq_refl; eq_refl))
    (with_reducible apply qAA); (focus (repeat' (first | (with_reducible apply qAv) | (with_reducible apply qAq) | ((with_reducible apply qAD); eq_refl) | ((with_reducible apply qAy); eq_refl; eq_refl; exact tyOk rfl; eq_refl; eq_refl)))); eq_refl; refine SubD.of_eq ?_
    rfl
  · rw [if_neg he]
    refine qAs Tryd.func131 rfl (by kernel_rfl) mixed (by kernel_rfl) (qle (by kernel_rfl)) Tryd.results131 ?_
    repeat (first | (with_reducible first | apply qAj | apply qAi | apply qAh | apply qAf | apply qAu | apply qAS | apply qAz) | ((with_reducible apply rp); first | (exact qBV rfl hi hd rfl hp) | ((with_reducible apply qAd); (conv => lhs; whnf)) | ((with_reducible apply qAa); (conv => lhs; whnf)) | ((with_reducible apply qAc); exact tyOk rfl; eq_refl; eq_refl; decide; eq_refl) | ((with_reducible apply qAe); exact tyOk rfl; (iterate 4 eq_refl)) | ((with_reducible apply qAU); eq_refl; eq_refl) | ((with_reducible apply qAt); eq_refl; eq_refl) | ((with_reducible apply qAV); exact tyOk rfl; eq_refl; eq_refl)) | ((with_reducible apply rp1); first | ((with_reducible apply qAp); eq_refl; eq_refl) | ((with_reducible apply qAk); exact tyOk rfl; eq_refl)) | ((with_reducible apply rpN); ((with_reducible apply qAb); exact tyOk rfl; (iterate 5 eq_refl))) | ((with_reducible apply qAn); eq_refl; rotate_left; (focus (intro hd; (exfalso; simp at hd; omega))); (intro hd; clear hd)))
    (with_reducible apply qAA); (focus (repeat' (first | (with_reducible apply qAv) | (with_reducible apply qAq) | ((with_reducible apply qAD); eq_refl) | ((with_reducible apply qAy); eq_refl; eq_refl; exact tyOk rfl; eq_refl; eq_refl)))); eq_refl; refine SubD.of_eq ?_
    rfl
set_option maxHeartbeats 2000000 in
theorem of_twin (op : Nat) (hop : bi2 op) (th th' : Value) (row : D) (t t' : Tv) (ht : Gd t.v) (ht' : Gd t'.v) (h : OfP th row (tvD t)) (h' : OfP th' row (tvD t')) :
    PC Tryd.prog 136 [.ag [iD op, .sc th, .sc th'], row] (tvD (if t.e = 0 then (if qED op t.v = true then ⟨t.v, 0⟩ else if t'.e = 0 then twoF op t.v t'.v else .bad t'.e) else .bad t.e)) := by
  obtain ⟨T, v, f, d0, rfl, hi, hd, hp⟩ := h
  obtain ⟨T', v', f', d0', rfl, hi', hd', hp'⟩ := h'
  have o1 := two_pc op hop ht ht'
  have t0 : PC Tryd.prog 133 [iD 0] (.ag [iD 1, iD 0, qD 0, strD .empty]) := qDo 0 (.inl rfl)
  have t2 : PC Tryd.prog 133 [iD 2] (.ag [iD 1, iD 1, qD 0, strD .empty]) := qDo 2 (.inr (.inr rfl))
  by_cases he : t.e = 0
  · rw [if_pos he]
    by_cases hs : qED op t.v = true
    · rw [if_pos hs]
      clear o1
      have hc : (op = 20 ∧ t.v.k ≠ 0) ∨ (op = 15 ∧ t.v = ⟨1, 0, 0, .empty⟩) ∨ (op = 16 ∧ t.v = ⟨1, 1, 0, .empty⟩) := by
        unfold qED at hs
        simp only [Bool.or_eq_true, Bool.and_eq_true, beq_iff_eq, bne_iff_ne] at hs
        rcases hs with (hs | hs) | hs
        · exact .inl hs
        · obtain ⟨n, _, e⟩ := ht.bool_n hs.1.2
          have e2 := hs.2
          rw [e] at e2
          exact .inr (.inl ⟨hs.1.1, by rw [e]; exact congrArg (fun n => (⟨1, n, 0, .empty⟩ : Vl)) e2⟩)
        · obtain ⟨n, _, e⟩ := ht.bool_n hs.1.2
          have e2 := hs.2
          rw [e] at e2
          exact .inr (.inr ⟨hs.1.1, by rw [e]; exact congrArg (fun n => (⟨1, n, 0, .empty⟩ : Vl)) e2⟩)
      clear hs ht ht' hop
      have e15 : (((15 : Nat) : Int) == 15 && ((1 : Int) == 1 && ((0 : Int) == 0 && (((0 : Nat) : Int) == ((0 : Nat) : Int) && (ByteArray.empty.toList == ByteArray.empty.toList && true))))) = true := by simp
      have e16 : (((16 : Nat) : Int) == 16 && ((1 : Int) == 1 && ((1 : Int) == 1 && (((0 : Nat) : Int) == ((0 : Nat) : Int) && (ByteArray.empty.toList == ByteArray.empty.toList && true))))) = true := by simp
      obtain ⟨⟨k, n, b, tx⟩, e⟩ := t
      dsimp only at *
      subst he
      rcases hc with ⟨rfl, h0⟩ | ⟨rfl, h0⟩ | ⟨rfl, h0⟩
      · have c20 : (((20 : Nat) : Int) == 20 && k != 0) = true := by simp [h0]
        unfold tvD Vl.cs at *
        dsimp only at *
        refine qAs Tryd.func136 rfl (by kernel_rfl) mixed (by kernel_rfl) (qle (by kernel_rfl)) Tryd.results136 ?_
        repeat (first | (with_reducible first | apply qAj | apply qAi | apply qAh | apply qAf) | ((with_reducible apply rp); first | (exact qBV rfl hi hd rfl hp) | ((with_reducible apply qAd); (conv => lhs; whnf)) | ((with_reducible apply qAa); (conv => lhs; whnf)) | ((with_reducible apply qAc); exact tyOk rfl; eq_refl; eq_refl; decide; eq_refl) | ((with_reducible apply qAe); exact tyOk rfl; (iterate 4 eq_refl)) | ((with_reducible apply qAU); eq_refl; eq_refl) | ((with_reducible apply qAt); eq_refl; eq_refl)) | ((with_reducible apply rp1); first | ((with_reducible apply qAp); eq_refl; eq_refl) | ((with_reducible apply qAk); exact tyOk rfl; eq_refl)) | ((with_reducible apply rpN); ((with_reducible apply qAb); exact tyOk rfl; (iterate 5 eq_refl))))
        refine qAn rfl (fun hd => absurd hd (by decide)) (fun _ => ?_)
        repeat (first | (with_reducible first | apply qAj | apply qAi | apply qAh | apply qAf | apply qAo | apply qAm) | ((first | (with_reducible apply rp) | ((with_reducible apply rpG); eq_refl; exact qAT rfl; (focus repeat' (first | exact trivial | exact id | apply And.intro)); intro zg; have zh := zg; (try simp only [zs1, zs2, zs3, zs4] at zg))); first | ((with_reducible first | apply qAd | apply qAa); (conv => lhs; whnf)) | ((with_reducible first | apply qAM | apply qAc | apply qAe | apply qAr | apply qAU) <;> first | ((with_reducible apply tyOk); eq_refl) | eq_refl | exact id | decide)))
        refine qAn rfl (fun _ => ?_) (fun hd => absurd (c20.symm.trans hd) (by decide))
        repeat (first | (with_reducible first | apply qAj | apply qAi | apply qAh | apply qAf | apply qAu | apply qAS | apply qBc | apply qAz) | ((with_reducible apply rp); first | ((with_reducible apply qAa); (conv => lhs; whnf)) | ((with_reducible apply qAl); exact tyOk rfl; (iterate 3 eq_refl); exact qle rfl; eq_refl)) | ((with_reducible apply rpN); ((with_reducible apply qAb); exact tyOk rfl; (iterate 5 eq_refl))))
        (with_reducible apply qAA); (focus (repeat' (first | (with_reducible apply qAv) | (with_reducible apply qAq) | ((with_reducible apply qAD); eq_refl) | ((with_reducible apply qAy); eq_refl; eq_refl; exact tyOk rfl; eq_refl; eq_refl)))); eq_refl; refine SubD.of_eq ?_
        rfl
      · cases h0
        unfold tvD Vl.cs at *
        dsimp only at *
        refine qAs Tryd.func136 rfl (by kernel_rfl) mixed (by kernel_rfl) (qle (by kernel_rfl)) Tryd.results136 ?_
        repeat (first | (with_reducible first | apply qAj | apply qAi | apply qAh | apply qAf) | ((with_reducible apply rp); first | (exact qBV rfl hi hd rfl hp) | ((with_reducible apply qAd); (conv => lhs; whnf)) | ((with_reducible apply qAa); (conv => lhs; whnf)) | ((with_reducible apply qAc); exact tyOk rfl; eq_refl; eq_refl; decide; eq_refl) | ((with_reducible apply qAe); exact tyOk rfl; (iterate 4 eq_refl)) | ((with_reducible apply qAU); eq_refl; eq_refl) | ((with_reducible apply qAt); eq_refl; eq_refl)) | ((with_reducible apply rp1); first | ((with_reducible apply qAp); eq_refl; eq_refl) | ((with_reducible apply qAk); exact tyOk rfl; eq_refl)) | ((with_reducible apply rpN); ((with_reducible apply qAb); exact tyOk rfl; (iterate 5 eq_refl))))
        refine qAn rfl (fun hd => absurd hd (by decide)) (fun _ => ?_)
        repeat (first | (with_reducible first | apply qAj | apply qAi | apply qAh | apply qAf | apply qAo | apply qAm) | ((first | (with_reducible apply rp) | ((with_reducible apply rpG); eq_refl; exact qAT rfl; (focus repeat' (first | exact trivial | exact id | apply And.intro)); intro zg; have zh := zg; (try simp only [zs1, zs2, zs3, zs4] at zg))); first | ((with_reducible first | apply qAd | apply qAa); (conv => lhs; whnf)) | ((with_reducible first | apply qAM | apply qAc | apply qAe | apply qAr | apply qAU) <;> first | ((with_reducible apply tyOk); eq_refl) | eq_refl | exact id | decide)))
        refine qAn rfl (fun hd => absurd hd (by decide)) (fun _ => ?_)
        repeat (first | (with_reducible first | apply qAj | apply qAf | apply qA4) | ((with_reducible apply qBg); (first | kernel_rfl | eq_refl)) | ((first | (with_reducible apply dr) | ((with_reducible apply drG); eq_refl; exact qAT rfl; (focus repeat' (first | exact trivial | exact id | apply And.intro)); intro zg; have zh := zg; (try simp only [zs1, zs2, zs3, zs4] at zg))); first | ((with_reducible apply qAg); eq_refl; eq_refl; exact (t0); eq_refl) | ((with_reducible first | apply qAd | apply qAa); (conv => lhs; whnf)) | ((with_reducible first | apply qAM | apply qAc | apply qAe | apply qAr) <;> first | ((with_reducible apply tyOk); eq_refl) | eq_refl | exact id | decide) | ((with_reducible apply qAl); exact tyOk rfl; (iterate 3 eq_refl); exact qle rfl; eq_refl) | ((with_reducible apply qCk); eq_refl; eq_refl; exact tgOk rfl; eq_refl)))
        refine qAn rfl (fun _ => ?_) (fun hd => absurd (e15.symm.trans hd) (by decide))
        repeat (first | (with_reducible first | apply qAf | apply qAm))
        refine qAn rfl (fun _ => ?_) (fun hd => absurd (e15.symm.trans hd) (by decide))
        repeat (first | (with_reducible first | apply qAj | apply qAi | apply qAh | apply qAf | apply qAu | apply qAS | apply qBc | apply qAz) | ((with_reducible apply rp); first | ((with_reducible apply qAa); (conv => lhs; whnf)) | ((with_reducible apply qAl); exact tyOk rfl; (iterate 3 eq_refl); exact qle rfl; eq_refl)) | ((with_reducible apply rpN); ((with_reducible apply qAb); exact tyOk rfl; (iterate 5 eq_refl))))
        (with_reducible apply qAA); (focus (repeat' (first | (with_reducible apply qAv) | (with_reducible apply qAq) | ((with_reducible apply qAD); eq_refl) | ((with_reducible apply qAy); eq_refl; eq_refl; exact tyOk rfl; eq_refl; eq_refl)))); eq_refl; refine SubD.of_eq ?_
        rfl
      · cases h0
        unfold tvD Vl.cs at *
        dsimp only at *
        refine qAs Tryd.func136 rfl (by kernel_rfl) mixed (by kernel_rfl) (qle (by kernel_rfl)) Tryd.results136 ?_
        repeat (first | (with_reducible first | apply qAj | apply qAi | apply qAh | apply qAf) | ((with_reducible apply rp); first | (exact qBV rfl hi hd rfl hp) | ((with_reducible apply qAd); (conv => lhs; whnf)) | ((with_reducible apply qAa); (conv => lhs; whnf)) | ((with_reducible apply qAc); exact tyOk rfl; eq_refl; eq_refl; decide; eq_refl) | ((with_reducible apply qAe); exact tyOk rfl; (iterate 4 eq_refl)) | ((with_reducible apply qAU); eq_refl; eq_refl) | ((with_reducible apply qAt); eq_refl; eq_refl)) | ((with_reducible apply rp1); first | ((with_reducible apply qAp); eq_refl; eq_refl) | ((with_reducible apply qAk); exact tyOk rfl; eq_refl)) | ((with_reducible apply rpN); ((with_reducible apply qAb); exact tyOk rfl; (iterate 5 eq_refl))))
        refine qAn rfl (fun hd => absurd hd (by decide)) (fun _ => ?_)
        repeat (first | (with_reducible first | apply qAj | apply qAi | apply qAh | apply qAf | apply qAo | apply qAm) | ((first | (with_reducible apply rp) | ((with_reducible apply rpG); eq_refl; exact qAT rfl; (focus repeat' (first | exact trivial | exact id | apply And.intro)); intro zg; have zh := zg; (try simp only [zs1, zs2, zs3, zs4] at zg))); first | ((with_reducible first | apply qAd | apply qAa); (conv => lhs; whnf)) | ((with_reducible first | apply qAM | apply qAc | apply qAe | apply qAr | apply qAU) <;> first | ((with_reducible apply tyOk); eq_refl) | eq_refl | exact id | decide)))
        refine qAn rfl (fun hd => absurd hd (by decide)) (fun _ => ?_)
        repeat (first | (with_reducible first | apply qAj | apply qAf | apply qA4) | ((with_reducible apply qBg); (first | kernel_rfl | eq_refl)) | ((first | (with_reducible apply dr) | ((with_reducible apply drG); eq_refl; exact qAT rfl; (focus repeat' (first | exact trivial | exact id | apply And.intro)); intro zg; have zh := zg; (try simp only [zs1, zs2, zs3, zs4] at zg))); first | ((with_reducible apply qAg); eq_refl; eq_refl; exact (t0); eq_refl) | ((with_reducible first | apply qAd | apply qAa); (conv => lhs; whnf)) | ((with_reducible first | apply qAM | apply qAc | apply qAe | apply qAr) <;> first | ((with_reducible apply tyOk); eq_refl) | eq_refl | exact id | decide) | ((with_reducible apply qAl); exact tyOk rfl; (iterate 3 eq_refl); exact qle rfl; eq_refl) | ((with_reducible apply qCk); eq_refl; eq_refl; exact tgOk rfl; eq_refl)))
        refine qAn rfl (fun hd => absurd hd (by simp)) (fun _ => ?_)
        repeat (first | (with_reducible first | apply qAf | apply qA4) | ((with_reducible apply qBg); (first | kernel_rfl | eq_refl)) | ((first | (with_reducible apply dr) | ((with_reducible apply drG); eq_refl; exact qAT rfl; (focus repeat' (first | exact trivial | exact id | apply And.intro)); intro zg; have zh := zg; (try simp only [zs1, zs2, zs3, zs4] at zg))); first | ((with_reducible apply qAg); eq_refl; eq_refl; exact (t2); eq_refl) | ((with_reducible first | apply qAd | apply qAa); (conv => lhs; whnf)) | ((with_reducible first | apply qAM | apply qAc | apply qAe | apply qAr) <;> first | ((with_reducible apply tyOk); eq_refl) | eq_refl | exact id | decide) | ((with_reducible apply qAl); exact tyOk rfl; (iterate 3 eq_refl); exact qle rfl; eq_refl) | ((with_reducible apply qCk); eq_refl; eq_refl; exact tgOk rfl; eq_refl)))
        refine qAn rfl (fun _ => ?_) (fun hd => absurd (e16.symm.trans hd) (by decide))
        repeat (first | (with_reducible first | apply qAj | apply qAi | apply qAh | apply qAf | apply qAu | apply qAS | apply qBc | apply qAz) | ((with_reducible apply rp); first | ((with_reducible apply qAa); (conv => lhs; whnf)) | ((with_reducible apply qAl); exact tyOk rfl; (iterate 3 eq_refl); exact qle rfl; eq_refl)) | ((with_reducible apply rpN); ((with_reducible apply qAb); exact tyOk rfl; (iterate 5 eq_refl))))
        (with_reducible apply qAA); (focus (repeat' (first | (with_reducible apply qAv) | (with_reducible apply qAq) | ((with_reducible apply qAD); eq_refl) | ((with_reducible apply qAy); eq_refl; eq_refl; exact tyOk rfl; eq_refl; eq_refl)))); eq_refl; refine SubD.of_eq ?_
        rfl
    · rw [if_neg hs]
      obtain ⟨⟨k, n, b, tx⟩, e⟩ := t
      dsimp only at *
      subst he
      have c20 : ((op : Int) == 20 && k != 0) = false := by
        rw [Bool.eq_false_iff]
        intro h
        simp only [Bool.and_eq_true, beq_iff_eq, bne_iff_ne] at h
        refine hs ?_
        unfold qED
        have e1 : op = 20 := by omega
        simp [e1, h.2]
      have c15 : ((op : Int) == 15 && (k == 1 && (n == 0 && ((b : Int) == 0 && (tx.toList == ByteArray.empty.toList && true))))) = false := by
        rw [Bool.eq_false_iff]
        intro h
        simp only [Bool.and_eq_true, beq_iff_eq] at h
        refine hs ?_
        unfold qED
        have e1 : op = 15 := by omega
        simp [e1, h.2.1, h.2.2.1]
      have c16 : ((op : Int) == 16 && (k == 1 && (n == 1 && ((b : Int) == 0 && (tx.toList == ByteArray.empty.toList && true))))) = false := by
        rw [Bool.eq_false_iff]
        intro h
        simp only [Bool.and_eq_true, beq_iff_eq] at h
        refine hs ?_
        unfold qED
        have e1 : op = 16 := by omega
        simp [e1, h.2.1, h.2.2.1]
      clear hs ht ht' hop
      obtain ⟨⟨k', n', b', tx'⟩, e'⟩ := t'
      generalize twoF op _ _ = r at *
      obtain ⟨⟨rk, rn, rb, rt⟩, re⟩ := r
      unfold tvD Vl.cs at *
      dsimp only at *
      by_cases he' : e' = 0
      · subst he'
        rw [if_pos rfl]
        refine qAs Tryd.func136 rfl (by kernel_rfl) mixed (by kernel_rfl) (qle (by kernel_rfl)) Tryd.results136 ?_
        repeat (first | (with_reducible first | apply qAj | apply qAi | apply qAh | apply qAf) | ((with_reducible apply rp); first | (exact qBV rfl hi hd rfl hp) | ((with_reducible apply qAd); (conv => lhs; whnf)) | ((with_reducible apply qAa); (conv => lhs; whnf)) | ((with_reducible apply qAc); exact tyOk rfl; eq_refl; eq_refl; decide; eq_refl) | ((with_reducible apply qAe); exact tyOk rfl; (iterate 4 eq_refl)) | ((with_reducible apply qAU); eq_refl; eq_refl) | ((with_reducible apply qAt); eq_refl; eq_refl)) | ((with_reducible apply rp1); first | ((with_reducible apply qAp); eq_refl; eq_refl) | ((with_reducible apply qAk); exact tyOk rfl; eq_refl)) | ((with_reducible apply rpN); ((with_reducible apply qAb); exact tyOk rfl; (iterate 5 eq_refl))))
        refine qAn rfl (fun hd => absurd hd (by decide)) (fun _ => ?_)
        repeat (first | (with_reducible first | apply qAj | apply qAi | apply qAh | apply qAf | apply qAo | apply qAm) | ((first | (with_reducible apply rp) | ((with_reducible apply rpG); eq_refl; exact qAT rfl; (focus repeat' (first | exact trivial | exact id | apply And.intro)); intro zg; have zh := zg; (try simp only [zs1, zs2, zs3, zs4] at zg))); first | ((with_reducible first | apply qAd | apply qAa); (conv => lhs; whnf)) | ((with_reducible first | apply qAM | apply qAc | apply qAe | apply qAr | apply qAU) <;> first | ((with_reducible apply tyOk); eq_refl) | eq_refl | exact id | decide)))
        refine qAn rfl (fun hd => absurd (c20.symm.trans hd) (by decide)) (fun _ => ?_)
        repeat (first | (with_reducible first | apply qAj | apply qAf | apply qA4) | ((with_reducible apply qBg); (first | kernel_rfl | eq_refl)) | ((first | (with_reducible apply dr) | ((with_reducible apply drG); eq_refl; exact qAT rfl; (focus repeat' (first | exact trivial | exact id | apply And.intro)); intro zg; have zh := zg; (try simp only [zs1, zs2, zs3, zs4] at zg))); first | ((with_reducible apply qAg); eq_refl; eq_refl; exact (t0); eq_refl) | ((with_reducible first | apply qAd | apply qAa); (conv => lhs; whnf)) | ((with_reducible first | apply qAM | apply qAc | apply qAe | apply qAr) <;> first | ((with_reducible apply tyOk); eq_refl) | eq_refl | exact id | decide) | ((with_reducible apply qAl); exact tyOk rfl; (iterate 3 eq_refl); exact qle rfl; eq_refl) | ((with_reducible apply qCk); eq_refl; eq_refl; exact tgOk rfl; eq_refl)))
        refine qAn rfl (fun hd => absurd (c15.symm.trans hd) (by decide)) (fun _ => ?_)
        repeat (first | (with_reducible first | apply qAf | apply qA4) | ((with_reducible apply qBg); (first | kernel_rfl | eq_refl)) | ((first | (with_reducible apply dr) | ((with_reducible apply drG); eq_refl; exact qAT rfl; (focus repeat' (first | exact trivial | exact id | apply And.intro)); intro zg; have zh := zg; (try simp only [zs1, zs2, zs3, zs4] at zg))); first | ((with_reducible apply qAg); eq_refl; eq_refl; exact (t2); eq_refl) | ((with_reducible first | apply qAd | apply qAa); (conv => lhs; whnf)) | ((with_reducible first | apply qAM | apply qAc | apply qAe | apply qAr) <;> first | ((with_reducible apply tyOk); eq_refl) | eq_refl | exact id | decide) | ((with_reducible apply qAl); exact tyOk rfl; (iterate 3 eq_refl); exact qle rfl; eq_refl) | ((with_reducible apply qCk); eq_refl; eq_refl; exact tgOk rfl; eq_refl)))
        refine qAn rfl (fun hd => absurd (c16.symm.trans hd) (by decide)) (fun _ => ?_)
        repeat (first | (with_reducible first | apply qAj | apply qAi | apply qAh | apply qAf | apply qAF | apply qAm) | ((with_reducible apply rp); first | (exact qBV rfl hi' hd' rfl hp') | ((with_reducible apply qAd); (conv => lhs; whnf)) | ((with_reducible apply qAa); (conv => lhs; whnf)) | ((with_reducible apply qAc); exact tyOk rfl; eq_refl; eq_refl; decide; eq_refl) | ((with_reducible apply qAe); exact tyOk rfl; (iterate 4 eq_refl)) | ((with_reducible apply qAU); eq_refl; eq_refl) | ((with_reducible apply qAt); eq_refl; eq_refl)) | ((with_reducible apply rp1); ((with_reducible apply qAk); exact tyOk rfl; eq_refl)) | ((with_reducible apply rpN); ((with_reducible apply qAb); exact tyOk rfl; (iterate 5 eq_refl))))
        refine qAn rfl (fun hd => absurd hd (by decide)) (fun _ => ?_)
        repeat (first | (with_reducible first | apply qAj | apply qAi | apply qAh | apply qAf | apply qAu | apply qAz | apply qAm) | ((with_reducible apply rp); first | ((with_reducible apply qAg); eq_refl; eq_refl; exact (o1); eq_refl) | ((with_reducible apply qAa); (conv => lhs; whnf)) | ((with_reducible apply qAc); exact tyOk rfl; eq_refl; eq_refl; decide; eq_refl) | ((with_reducible apply qAe); exact tyOk rfl; (iterate 4 eq_refl)) | ((with_reducible apply qAl); exact tyOk rfl; (iterate 3 eq_refl); exact qle rfl; eq_refl) | ((with_reducible apply qAt); eq_refl; eq_refl)) | ((with_reducible apply rpN); ((with_reducible apply qAb); exact tyOk rfl; (iterate 5 eq_refl))))
        (with_reducible apply qAA); (focus (repeat' (first | (with_reducible apply qAv) | (with_reducible apply qAq) | ((with_reducible apply qAD); eq_refl) | ((with_reducible apply qAy); eq_refl; eq_refl; exact tyOk rfl; eq_refl; eq_refl)))); eq_refl; refine SubD.of_eq ?_
        rfl
      · rw [if_neg he']
        have hne : ((e' : Int) != 0) = true := bne_iff_ne.2 (by omega)
        refine qAs Tryd.func136 rfl (by kernel_rfl) mixed (by kernel_rfl) (qle (by kernel_rfl)) Tryd.results136 ?_
        repeat (first | (with_reducible first | apply qAj | apply qAi | apply qAh | apply qAf) | ((with_reducible apply rp); first | (exact qBV rfl hi hd rfl hp) | ((with_reducible apply qAd); (conv => lhs; whnf)) | ((with_reducible apply qAa); (conv => lhs; whnf)) | ((with_reducible apply qAc); exact tyOk rfl; eq_refl; eq_refl; decide; eq_refl) | ((with_reducible apply qAe); exact tyOk rfl; (iterate 4 eq_refl)) | ((with_reducible apply qAU); eq_refl; eq_refl) | ((with_reducible apply qAt); eq_refl; eq_refl)) | ((with_reducible apply rp1); first | ((with_reducible apply qAp); eq_refl; eq_refl) | ((with_reducible apply qAk); exact tyOk rfl; eq_refl)) | ((with_reducible apply rpN); ((with_reducible apply qAb); exact tyOk rfl; (iterate 5 eq_refl))))
        refine qAn rfl (fun hd => absurd hd (by decide)) (fun _ => ?_)
        repeat (first | (with_reducible first | apply qAj | apply qAi | apply qAh | apply qAf | apply qAo | apply qAm) | ((first | (with_reducible apply rp) | ((with_reducible apply rpG); eq_refl; exact qAT rfl; (focus repeat' (first | exact trivial | exact id | apply And.intro)); intro zg; have zh := zg; (try simp only [zs1, zs2, zs3, zs4] at zg))); first | ((with_reducible first | apply qAd | apply qAa); (conv => lhs; whnf)) | ((with_reducible first | apply qAM | apply qAc | apply qAe | apply qAr | apply qAU) <;> first | ((with_reducible apply tyOk); eq_refl) | eq_refl | exact id | decide)))
        refine qAn rfl (fun hd => absurd (c20.symm.trans hd) (by decide)) (fun _ => ?_)
        repeat (first | (with_reducible first | apply qAj | apply qAf | apply qA4) | ((with_reducible apply qBg); (first | kernel_rfl | eq_refl)) | ((first | (with_reducible apply dr) | ((with_reducible apply drG); eq_refl; exact qAT rfl; (focus repeat' (first | exact trivial | exact id | apply And.intro)); intro zg; have zh := zg; (try simp only [zs1, zs2, zs3, zs4] at zg))); first | ((with_reducible apply qAg); eq_refl; eq_refl; exact (t0); eq_refl) | ((with_reducible first | apply qAd | apply qAa); (conv => lhs; whnf)) | ((with_reducible first | apply qAM | apply qAc | apply qAe | apply qAr) <;> first | ((with_reducible apply tyOk); eq_refl) | eq_refl | exact id | decide) | ((with_reducible apply qAl); exact tyOk rfl; (iterate 3 eq_refl); exact qle rfl; eq_refl) | ((with_reducible apply qCk); eq_refl; eq_refl; exact tgOk rfl; eq_refl)))
        refine qAn rfl (fun hd => absurd (c15.symm.trans hd) (by decide)) (fun _ => ?_)
        repeat (first | (with_reducible first | apply qAf | apply qA4) | ((with_reducible apply qBg); (first | kernel_rfl | eq_refl)) | ((first | (with_reducible apply dr) | ((with_reducible apply drG); eq_refl; exact qAT rfl; (focus repeat' (first | exact trivial | exact id | apply And.intro)); intro zg; have zh := zg; (try simp only [zs1, zs2, zs3, zs4] at zg))); first | ((with_reducible apply qAg); eq_refl; eq_refl; exact (t2); eq_refl) | ((with_reducible first | apply qAd | apply qAa); (conv => lhs; whnf)) | ((with_reducible first | apply qAM | apply qAc | apply qAe | apply qAr) <;> first | ((with_reducible apply tyOk); eq_refl) | eq_refl | exact id | decide) | ((with_reducible apply qAl); exact tyOk rfl; (iterate 3 eq_refl); exact qle rfl; eq_refl) | ((with_reducible apply qCk); eq_refl; eq_refl; exact tgOk rfl; eq_refl)))
        refine qAn rfl (fun hd => absurd (c16.symm.trans hd) (by decide)) (fun _ => ?_)
        repeat (first | (with_reducible first | apply qAj | apply qAi | apply qAh | apply qAf | apply qAF | apply qAm) | ((with_reducible apply rp); first | (exact qBV rfl hi' hd' rfl hp') | ((with_reducible apply qAd); (conv => lhs; whnf)) | ((with_reducible apply qAa); (conv => lhs; whnf)) | ((with_reducible apply qAc); exact tyOk rfl; eq_refl; eq_refl; decide; eq_refl) | ((with_reducible apply qAe); exact tyOk rfl; (iterate 4 eq_refl)) | ((with_reducible apply qAU); eq_refl; eq_refl) | ((with_reducible apply qAt); eq_refl; eq_refl)) | ((with_reducible apply rp1); ((with_reducible apply qAk); exact tyOk rfl; eq_refl)) | ((with_reducible apply rpN); ((with_reducible apply qAb); exact tyOk rfl; (iterate 5 eq_refl))))
        refine qAn rfl (fun _ => ?_) (fun hd => absurd (hne.symm.trans hd) (by decide))
        repeat (first | (with_reducible first | apply qAj | apply qAi | apply qAh | apply qAf | apply qAu | apply qAS | apply qAz) | ((with_reducible apply rp); first | ((with_reducible apply qAd); (conv => lhs; whnf)) | ((with_reducible apply qAa); (conv => lhs; whnf)) | ((with_reducible apply qAV); exact tyOk rfl; eq_refl; eq_refl)) | ((with_reducible apply rpN); ((with_reducible apply qAb); exact tyOk rfl; (iterate 5 eq_refl))))
        (with_reducible apply qAA); (focus (repeat' (first | (with_reducible apply qAv) | (with_reducible apply qAq) | ((with_reducible apply qAD); eq_refl) | ((with_reducible apply qAy); eq_refl; eq_refl; exact tyOk rfl; eq_refl; eq_refl)))); eq_refl; refine SubD.of_eq ?_
        rfl
  · rw [if_neg he]
    obtain ⟨⟨k, n, b, tx⟩, e⟩ := t
    unfold tvD Vl.cs at *
    dsimp only at *
    clear o1 ht ht' hop
    refine qAs Tryd.func136 rfl (by kernel_rfl) mixed (by kernel_rfl) (qle (by kernel_rfl)) Tryd.results136 ?_
    repeat (first | (with_reducible first | apply qAj | apply qAi | apply qAh | apply qAf | apply qAu | apply qAS | apply qAz) | ((with_reducible apply rp); first | (exact qBV rfl hi hd rfl hp) | ((with_reducible apply qAd); (conv => lhs; whnf)) | ((with_reducible apply qAa); (conv => lhs; whnf)) | ((with_reducible apply qAc); exact tyOk rfl; eq_refl; eq_refl; decide; eq_refl) | ((with_reducible apply qAe); exact tyOk rfl; (iterate 4 eq_refl)) | ((with_reducible apply qAU); eq_refl; eq_refl) | ((with_reducible apply qAt); eq_refl; eq_refl) | ((with_reducible apply qAV); exact tyOk rfl; eq_refl; eq_refl)) | ((with_reducible apply rp1); first | ((with_reducible apply qAp); eq_refl; eq_refl) | ((with_reducible apply qAk); exact tyOk rfl; eq_refl)) | ((with_reducible apply rpN); ((with_reducible apply qAb); exact tyOk rfl; (iterate 5 eq_refl))) | ((with_reducible apply qAn); eq_refl; rotate_left; (focus (intro hd; (exfalso; simp at hd; omega))); (intro hd; clear hd)))
    (with_reducible apply qAA); (focus (repeat' (first | (with_reducible apply qAv) | (with_reducible apply qAq) | ((with_reducible apply qAD); eq_refl) | ((with_reducible apply qAy); eq_refl; eq_refl; exact tyOk rfl; eq_refl; eq_refl)))); eq_refl; refine SubD.of_eq ?_
    rfl
theorem eof_pc (cols : List Cl) (row : List Vl) (hl : row.length = cols.length) (h5 : row.length ≤ 1000000) (hr : ∀ v ∈ row, Gd v) : ∀ x : Ex, x.ok → OfP (thF cols x) (qBx row) (tvD (evF cols row x))
  | .lit v, _ => eof_lit cols (qBx row) v
  | .col n, _ => by
    unfold thF evF
    cases hf : qF7 n 0 cols with
    | none => exact ⟨_, _, _, .ag [], rfl, inv_missing, fun I w => qEC (l := []) (by intro v hv; cases hv), of_missing _⟩
    | some i =>
      have hi := findI_lt hf
      obtain ⟨v, hv⟩ : ∃ v, row[i]? = some v := ⟨_, List.getElem?_eq_getElem (by omega)⟩
      dsimp only
      rw [hv]
      exact ⟨_, _, _, .ag [iD i], rfl, inv_place, fun I w => qEC (l := [.int .i64 (i : Int)]) (by intro v hv; simp at hv; subst hv; rfl), of_place i row v hv h5⟩
  | .un op a, h => ⟨_, _, _, .ag [iD op, .sc (thF cols a)], rfl, inv_sole, fun I w => qEC (l := [.int .i64 (op : Int), thF cols a]) (by intro v hv; simp at hv; rcases hv with rfl | rfl; rfl; exact qER cols a),
      of_sole op h.1 _ _ _ (evF_gd hr h.2) (eof_pc cols row hl h5 hr a h.2)⟩
  | .bi op a b, h => ⟨_, _, _, .ag [iD op, .sc (thF cols a), .sc (thF cols b)], rfl, inv_twin, fun I w => qEC (l := [.int .i64 (op : Int), thF cols a, thF cols b]) (by intro v hv; simp at hv; rcases hv with rfl | rfl | rfl; rfl; exact qER cols a; exact qER cols b),
      of_twin op h.1 _ _ _ _ _ (evF_gd hr h.2.1) (evF_gd hr h.2.2) (eof_pc cols row hl h5 hr a h.2.1) (eof_pc cols row hl h5 hr b h.2.2)⟩
end Go.Proofs.YtpaccaojgbfjdaaDoor

