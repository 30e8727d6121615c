/-
  The scanner of package lex: quote. No condition but the sizes.
-/
import Derived.Test.YtlpnnnmdkglkcaaDoorZLexX
import Derived.Test.YtlpnnnmdkglkcaaDoorZLexK
import Derived.Test.YtlpnnnmdkglkcaaDoorZG
import Derived.Test.YtlpnnnmdkglkcaaDoorZC
import Derived.Test.YtlpnnnmdkglkcaaDoorZUtf
set_option linter.unusedSimpArgs false
set_option linter.unusedVariables false
namespace Go.Proofs.YtlpnnnmdkglkcaaDoor
open Go.RowKit

section
variable {P : Program} {dst : Option Nat} {ty : TypeId} {e : Operand → A} {β : Bx}
theorem qCq {op : Op} (t : Nat) {id n sz : Nat} {es : List (List D)} {v : A} {rd : List Nat} (hx : e (.tmp t) = .ow id n) (hro : qBf β id = some (sz, es))
    (h : Does P dst op ty (setE e t (.d (.sl sz es))) ([(id, .frz sz es)] ++ β) v [] rd) : Does P dst op ty e β v [(id, .frz sz es)] (id :: rd) := does_frz t hx hro h
end
def quoP (l : List UInt8) : Nat := match quoF l with
  | some r => r.2
  | none => l.length
theorem u8_ne2 {c d : UInt8} (h : c ≠ d) : ((c.toNat : Int) == (d.toNat : Int)) = false := by
  rw [beq_eq_false_iff_ne]
  intro h2
  exact h (UInt8.toNat_inj.1 (by omega))
set_option maxHeartbeats 8000000 in
theorem quote_px (s : ByteArray) (hs : s.size ≤ 1000000) (i : Nat) (hi : i < s.size) (r : LR) (h : quoT (qAN s (i + 1)) = r) :
    PX Tryd.prog 56 [.px 1000 0] (scB s i) [] (lrD r) (scB s (i + 1 + quoP (qAN s (i + 1)))) [] := by
  unfold quoT at h
  have hXl := qCy s (i + 1)
  refine qBk Tryd.func56 rfl (by kernel_rfl) mixed (by kernel_rfl) (qle (by kernel_rfl)) Tryd.results56 rfl ?_
  repeat (first | ((first | (with_reducible apply rpGT) | (with_reducible apply drGT) | (with_reducible apply qAP) | (with_reducible apply qAO)); eq_refl; (first | exact qAo rfl | exact qAt rfl | exact qAw rfl | exact qAy rfl); (first | eq_refl | assumption | decide); (focus repeat' (first | exact trivial | exact id | apply And.intro | (intro h; (first | exact h | (simp only [Bool.and_eq_true] at h; (first | exact h.1 | exact h.1.1 | exact h.1.1.1 | exact h.2)) | (rw [h]; rfl) | (rw [zh, h]; rfl) | simp_all)))); ((first | (exact qAW (z := ((i + 1 : Nat) : Int)) (by omega) (by omega) (by omega) rfl rfl) | ((with_reducible first | apply qAc | apply qAa); (conv => lhs; whnf)) | ((with_reducible first | apply qAb | apply qAe | apply qAi | apply qAu) <;> first | ((with_reducible apply tyOk); eq_refl) | eq_refl | decide) | ((with_reducible apply qAL); exact tyOk rfl; eq_refl; eq_refl; (conv => lhs; whnf); eq_refl; eq_refl; exact qle rfl)); (first | exact qAh _ | exact qAp _ _ | exact qAr _ _ _ | exact qAq _ _ _ _))) | (with_reducible first | apply qAl | apply qAm | apply qAn | apply qAk | apply qAs) | ((with_reducible apply rp); first | (exact qAW (z := ((i + 1 : Nat) : Int)) (by omega) (by omega) (by omega) rfl rfl) | ((with_reducible apply qAc); (conv => lhs; whnf)) | ((with_reducible apply qAa); (conv => lhs; whnf)) | ((with_reducible apply qAb); exact tyOk rfl; eq_refl; eq_refl; decide; eq_refl) | ((with_reducible apply qAe); exact tyOk rfl; (iterate 4 eq_refl)) | ((with_reducible apply qAi); eq_refl)) | ((with_reducible apply rp1); ((with_reducible apply qAu); exact tyOk rfl; eq_refl)) | ((with_reducible apply rpN); ((with_reducible apply qAL); exact tyOk rfl; eq_refl; eq_refl; (conv => lhs; whnf); eq_refl; eq_refl; exact qle rfl)))
  refine qB5 (fun m st => ∃ (k q : Nat) (bs : List UInt8), i + 1 + k ≤ s.size ∧ bs.length = q ∧ q ≤ k ∧ quoF (qAN s (i + 1)) = (quoF (qAN s (i + 1 + k))).map (fun r => (bs ++ r.1, k + r.2)) ∧ s.size - k = m ∧ st = ⟨[(0, .px 1000 0), (2, .px 2 0), (4, .ow 2000 q)], [(1000, .var 73 [.d (strD s), .d (iD (i + 1 + k : Nat))]), (2, .var 32 (noT.map .d)), (2000, .row 5 1 (bs.map fun c => [u8D c]))]⟩) _ _ ?_ ⟨0, 0, [], by omega, rfl, Nat.le_refl _, by rw [Nat.add_zero]; cases quoF (qAN s (i + 1)) <;> simp, rfl, rfl⟩ ?_
  · refine Ent.trans (ent_nil 4 2000 5 1 rfl rfl) ?_
    refine qAT [] (by repeat' (first | exact qA0 | (refine qAH rfl (by exact SubA.refl _) ?_))) (by repeat' (first | exact trivial | eq_refl | apply And.intro)) rfl (insS rfl) (by repeat' (first | exact trivial | exact qBu _ | exact qDC rfl | exact qBc rfl | apply And.intro))
  · rintro m st ⟨k, q, bs, hik, hbl, hqk, hQ, rfl, rfl⟩
    rcases Nat.lt_or_ge (i + 1 + k) s.size with hlt | hge
    · have hg : decide (((i + 1 + k : Nat) : Int) ≥ (s.size : Nat)) = false := decide_eq_false (by omega)
      obtain ⟨c, hb, hr⟩ := qCr hlt
      by_cases hc : c = 39
      · subst hc
        by_cases hd : (qAN s (i + 1 + k + 1)).head? = some 39
        · -- another quote
          have h1 : i + 1 + k + 1 < s.size := by
            rcases Nat.lt_or_ge (i + 1 + k + 1) s.size with h1 | h1
            · exact h1
            · rw [qDt h1] at hd; cases hd
          obtain ⟨d, hd1, hd2⟩ := qCr h1
          rw [hd2] at hd
          injection hd with hd
          have hd : d = 39 := hd
          subst hd
          rw [hr, hd2, quo_two] at hQ
          have hQ : quoF (qAN s (i + 1)) = (quoF (qAN s (i + 1 + (k + 2)))).map (fun r => ((bs ++ [39]) ++ r.1, k + 2 + r.2)) := by
            rw [hQ, Option.map_map]
            show Option.map _ (quoF (qAN s (i + 1 + k + 1 + 1))) = Option.map _ (quoF (qAN s (i + 1 + k + 1 + 1)))
            congr 1
            funext r
            show (bs ++ 39 :: r.1, k + (r.2 + 2)) = (bs ++ [39] ++ r.1, k + 2 + r.2)
            rw [List.append_assoc, show k + (r.2 + 2) = k + 2 + r.2 by omega]
            rfl
          have hb1 : decide (((i + 1 + (k + 1) : Nat) : Int) ≥ (s.size : Nat)) = false := decide_eq_false (by omega)
          have hd1 : s.data[i + 1 + (k + 1)]? = some 39 := hd1
          have hn : (((39 : UInt8).toNat : Int) != ((39 : UInt8).toNat : Int)) = false := rfl
          have e1 : (bs ++ [39]).map (fun c => [u8D c]) = bs.map (fun c => [u8D c]) ++ [[u8D 39]] := by rw [List.map_append]; rfl
          have l1 : (bs.map fun c => [u8D c]).length = q := by rw [List.length_map]; exact hbl
          have l2 : (bs ++ [39]).length = q + 1 := by rw [List.length_append, hbl]; rfl
          generalize bs ++ [39] = b2 at *
          generalize bs.map (fun c => [u8D c]) = z at *
          clear h hr hd2
          repeat (first | ((first | (with_reducible apply rpGT) | (with_reducible apply drGT) | (with_reducible apply qAP) | (with_reducible apply qAO)); eq_refl; exact qAt rfl; (first | eq_refl | assumption | decide); (focus repeat' (first | exact trivial | apply And.intro)); ((first | (exact qAR hg rfl rfl) | (exact qAR hb1 rfl rfl) | (exact qBT hn rfl rfl) | (exact qAW (z := ((i + 1 + (k + 1) : Nat) : Int)) (by omega) (by omega) (by omega) rfl rfl) | (exact qAW (z := ((i + 1 + (k + 2) : Nat) : Int)) (by omega) (by omega) (by omega) rfl rfl) | ((with_reducible first | apply qAc | apply qAa); (conv => lhs; whnf)) | ((with_reducible first | apply qAz | apply qAb | apply qAe | apply qAA | apply qAg | apply qAi) <;> first | ((with_reducible apply tyOk); eq_refl) | eq_refl | exact trivial | decide) | ((with_reducible apply qAj); exact tyOk rfl; (iterate 4 eq_refl); assumption) | ((with_reducible apply qAV); exact tyOk rfl; eq_refl; exact tyOk rfl; eq_refl; eq_refl; (focus repeat' (first | exact trivial | refine And.intro rfl (And.intro rfl ?_))); decide; decide; eq_refl) | ((with_reducible apply qBx); exact tyOk rfl; eq_refl; exact tyOk rfl; (iterate 3 eq_refl); decide; (first | (dsimp only; simp only [List.length_map, List.length_append, List.length_cons, List.length_nil] at *; omega) | (simp only [List.length_map, List.length_append, List.length_cons, List.length_nil] at *; omega)); (first | (dsimp only; simp only [List.length_map, List.length_append, List.length_cons, List.length_nil] at *; omega) | (simp only [List.length_map, List.length_append, List.length_cons, List.length_nil] at *; omega)); eq_refl) | ((with_reducible apply qAL); exact tyOk rfl; eq_refl; eq_refl; (conv => lhs; whnf); eq_refl; eq_refl; exact qle rfl)); (first | exact qAh _ | exact qAp _ _ | exact qAr _ _ _ | exact qAq _ _ _ _))) | (with_reducible first | apply qAl | apply qAm | apply qAn | apply qAk | apply qBi | apply qAs | apply qA2 | apply qAC) | ((with_reducible apply qBt); (first | kernel_rfl | eq_refl)) | ((with_reducible first | apply rp | apply dr); first | (exact qAR hg rfl rfl) | (exact qAR hb1 rfl rfl) | (exact qBT hn rfl rfl) | (exact qAW (z := ((i + 1 + (k + 1) : Nat) : Int)) (by omega) (by omega) (by omega) rfl rfl) | (exact qAW (z := ((i + 1 + (k + 2) : Nat) : Int)) (by omega) (by omega) (by omega) rfl rfl) | ((with_reducible first | apply qAc | apply qAa); (conv => lhs; whnf)) | ((with_reducible first | apply qAz | apply qAb | apply qAe | apply qAA | apply qAg | apply qAi) <;> first | ((with_reducible apply tyOk); eq_refl) | eq_refl | exact trivial | decide) | ((with_reducible apply qAj); exact tyOk rfl; (iterate 4 eq_refl); assumption)) | ((with_reducible apply rp1); ((with_reducible apply qAV); exact tyOk rfl; eq_refl; exact tyOk rfl; eq_refl; eq_refl; (focus repeat' (first | exact trivial | refine And.intro rfl (And.intro rfl ?_))); decide; decide; eq_refl)) | ((with_reducible apply rp2); ((with_reducible apply qBx); exact tyOk rfl; eq_refl; exact tyOk rfl; (iterate 3 eq_refl); decide; (first | (dsimp only; simp only [List.length_map, List.length_append, List.length_cons, List.length_nil] at *; omega) | (simp only [List.length_map, List.length_append, List.length_cons, List.length_nil] at *; omega)); (first | (dsimp only; simp only [List.length_map, List.length_append, List.length_cons, List.length_nil] at *; omega) | (simp only [List.length_map, List.length_append, List.length_cons, List.length_nil] at *; omega)); eq_refl)) | ((with_reducible apply rpN); ((with_reducible apply qAL); exact tyOk rfl; eq_refl; eq_refl; (conv => lhs; whnf); eq_refl; eq_refl; exact qle rfl)) | ((with_reducible apply qBl); eq_refl; eq_refl) | ((with_reducible apply qBr); eq_refl; eq_refl))
          refine ⟨_, _, ?_, ?_, k + 2, q + 1, b2, by omega, l2, by omega, hQ, rfl, rfl⟩
          · omega
          · rw [e1]
            refine qAT [(2000, 78)] (by repeat' (first | exact qA0 | (refine qAH rfl (by (first | exact SubA.refl _ | exact subA_ow (by (simp; omega)))) ?_))) ?_ rfl (by repeat' (first | exact trivial | exact qBu _ | exact qDC rfl | exact qBc rfl | apply And.intro)) (by repeat' (first | exact trivial | exact qBu _ | exact qDC rfl | exact qBc rfl | apply And.intro))
            exact qDi rfl rfl (qDi rfl rfl (qDi rfl (row_eq rfl) kb_nil))
        · -- the end
          rw [hr, quo_end hd] at hQ
          have hQ : quoF (qAN s (i + 1)) = some (bs, k + 1) := by rw [hQ]; simp
          have hP : quoP (qAN s (i + 1)) = k + 1 := by unfold quoP; rw [hQ]
          rw [hQ] at h
          have h : (if 40 < bs.length then LR.err 1 else if Lib.validD bs then .ok ⟨4, ⟨bs.toArray⟩, 0, 0⟩ (k + 1 + 1) else .err 3) = r := h
          rw [hP]
          have hbrk : (decide (((i + 1 + (k + 1) : Nat) : Int) ≥ (s.size : Nat)) = true) ∨ (decide (((i + 1 + (k + 1) : Nat) : Int) ≥ (s.size : Nat)) = false ∧ ∃ d, s.data[i + 1 + (k + 1)]? = some d ∧ ((d.toNat : Int) != ((39 : UInt8).toNat : Int)) = true) := by
            rcases Nat.lt_or_ge (i + 1 + k + 1) s.size with h1 | h1
            · right
              obtain ⟨d, hd1, hd2⟩ := qCr h1
              refine ⟨decide_eq_false (by omega), d, hd1, ?_⟩
              rw [hd2] at hd
              rw [bne, u8_ne2 fun e => hd (by rw [e]; rfl)]
              rfl
            · exact .inl (decide_eq_true (by omega))
          clear hd hQ hr hP
          have hml : (bs.map fun c => [u8D c]).length = q := by rw [List.length_map]; exact hbl
          rcases hbrk with hb1 | ⟨hb1, d, hd1, hd2⟩
          all_goals
            by_cases h40 : 40 < bs.length
            · rw [if_pos h40] at h
              subst h
              have hg2 : decide ((q : Int) > 40) = true := decide_eq_true (by omega)
              generalize bs.map (fun c => [u8D c]) = es at *
              repeat (first | ((first | (with_reducible apply rpGT) | (with_reducible apply drGT) | (with_reducible apply qAP) | (with_reducible apply qAO)); eq_refl; exact qAt rfl; (first | eq_refl | assumption | decide); (focus repeat' (first | exact trivial | exact id | apply And.intro)); ((first | (exact qAR hg rfl rfl) | (exact qAR hb1 rfl rfl) | (exact qBT hd2 rfl rfl) | (exact qAW (z := ((i + 1 + (k + 1) : Nat) : Int)) (by omega) (by omega) (by omega) rfl rfl) | (exact qAZ hg2 rfl rfl) | ((with_reducible first | apply qAc | apply qAa); (conv => lhs; whnf)) | ((with_reducible first | apply qA6 | apply qAb | apply qAe | apply qAA | apply qBM | apply qA9 | apply qAi) <;> first | ((with_reducible apply tyOk); eq_refl) | eq_refl | exact trivial | decide) | ((with_reducible apply qDp); eq_refl; (first | assumption | decide); (conv => lhs; whnf)) | ((with_reducible apply qAg); exact tyOk rfl; eq_refl; eq_refl) | ((with_reducible apply qAj); exact tyOk rfl; (iterate 4 eq_refl); assumption) | ((with_reducible apply qAL); exact tyOk rfl; eq_refl; eq_refl; (conv => lhs; whnf); eq_refl; eq_refl; exact qle rfl) | ((with_reducible apply qAf); exact tyOk rfl; (iterate 5 eq_refl))); (first | exact qAh _ | exact qAp _ _ | exact qAr _ _ _ | exact qAq _ _ _ _))) | (with_reducible first | apply qAl | apply qAm | apply qAn | apply qAk | apply qBi | apply qAs | apply qBJ | apply qBL | apply qBK | apply qAF | apply qBs | apply qBD | apply qAC) | ((with_reducible apply qDv); eq_refl) | ((with_reducible apply qBt); (first | kernel_rfl | eq_refl)) | ((first | (with_reducible first | apply rp | apply dr) | ((with_reducible apply drG); eq_refl; exact qAt rfl; (focus repeat' (first | exact trivial | exact id | apply And.intro)); intro zg; have zh := zg; (try simp only [zs1, zs2, zs3, zs4] at zg))); first | (exact qAR hg rfl rfl) | (exact qAR hb1 rfl rfl) | (exact qBT hd2 rfl rfl) | (exact qAW (z := ((i + 1 + (k + 1) : Nat) : Int)) (by omega) (by omega) (by omega) rfl rfl) | (exact qAZ hg2 rfl rfl) | ((with_reducible first | apply qAc | apply qAa); (conv => lhs; whnf)) | ((with_reducible first | apply qA6 | apply qAb | apply qAe | apply qAA | apply qBM | apply qA9 | apply qAi) <;> first | ((with_reducible apply tyOk); eq_refl) | eq_refl | exact trivial | decide) | ((with_reducible apply qDp); eq_refl; (first | assumption | decide); (conv => lhs; whnf)) | ((with_reducible apply qAg); exact tyOk rfl; eq_refl; eq_refl) | ((with_reducible apply qAj); exact tyOk rfl; (iterate 4 eq_refl); assumption)) | ((with_reducible apply rpN); first | ((with_reducible apply qAL); exact tyOk rfl; eq_refl; eq_refl; (conv => lhs; whnf); eq_refl; eq_refl; exact qle rfl) | ((with_reducible apply qAf); exact tyOk rfl; (iterate 5 eq_refl))) | ((with_reducible apply qBl); eq_refl; eq_refl) | ((with_reducible apply qBr); eq_refl; eq_refl) | ((first | (with_reducible apply rpGF) | (with_reducible apply drGF)); eq_refl; exact qAt rfl; (first | assumption | decide | eq_refl); (focus repeat' (first | exact trivial | exact id | apply And.intro))))
              (with_reducible apply qBa (l := [])); (focus (repeat' (first | (with_reducible apply qAE) | (with_reducible apply qAx) | ((with_reducible apply qAI); eq_refl) | ((with_reducible apply qBh); eq_refl; eq_refl; exact tyOk rfl; eq_refl; eq_refl)))); eq_refl; exact SubD.refl _; refine ⟨(by repeat' (first | exact qA0 | (refine qAH rfl (by exact SubA.refl _) ?_))), (by repeat' (first | exact trivial | eq_refl | apply And.intro)), rfl, insS rfl, (by repeat' (first | exact trivial | exact qBc rfl | apply And.intro))⟩
            · rw [if_neg h40] at h
              have hg2 : decide ((q : Int) > 40) = false := decide_eq_false (by omega)
              repeat (first | ((first | (with_reducible apply rpGT) | (with_reducible apply drGT) | (with_reducible apply qAP) | (with_reducible apply qAO)); eq_refl; exact qAt rfl; (first | eq_refl | assumption | decide); (focus repeat' (first | exact trivial | exact id | apply And.intro)); ((first | (exact qAR hg rfl rfl) | (exact qAR hb1 rfl rfl) | (exact qBT hd2 rfl rfl) | (exact qAW (z := ((i + 1 + (k + 1) : Nat) : Int)) (by omega) (by omega) (by omega) rfl rfl) | (exact qAZ hg2 rfl rfl) | (exact qCq 83 rfl rfl (qCa (k := bs) (tyOk rfl) rfl (tyOk rfl) rfl (tyOk rfl) rfl rfl)) | (exact qC2 (tyOk rfl) rfl rfl rfl) | ((with_reducible first | apply qAc | apply qAa); (conv => lhs; whnf)) | ((with_reducible first | apply qA6 | apply qAb | apply qAe | apply qAA | apply qBM | apply qAi) <;> first | ((with_reducible apply tyOk); eq_refl) | eq_refl | exact trivial | decide) | ((with_reducible apply qDp); eq_refl; (first | assumption | decide); (conv => lhs; whnf)) | ((with_reducible apply qAg); exact tyOk rfl; eq_refl; eq_refl) | ((with_reducible apply qAj); exact tyOk rfl; (iterate 4 eq_refl); assumption) | ((with_reducible apply qAL); exact tyOk rfl; eq_refl; eq_refl; (conv => lhs; whnf); eq_refl; eq_refl; exact qle rfl)); (first | exact qAh _ | exact qAp _ _ | exact qAr _ _ _ | exact qAq _ _ _ _))) | (with_reducible first | apply qAl | apply qAm | apply qAn | apply qAk | apply qBi | apply qAs | apply qBJ | apply qBL | apply qBK | apply qAC) | ((with_reducible apply qDv); eq_refl) | ((with_reducible apply qBt); (first | kernel_rfl | eq_refl)) | ((first | (with_reducible first | apply rp | apply dr) | ((with_reducible apply drG); eq_refl; exact qAt rfl; (focus repeat' (first | exact trivial | exact id | apply And.intro)); intro zg; have zh := zg; (try simp only [zs1, zs2, zs3, zs4] at zg))); first | (exact qAR hg rfl rfl) | (exact qAR hb1 rfl rfl) | (exact qBT hd2 rfl rfl) | (exact qAW (z := ((i + 1 + (k + 1) : Nat) : Int)) (by omega) (by omega) (by omega) rfl rfl) | (exact qAZ hg2 rfl rfl) | ((with_reducible first | apply qAc | apply qAa); (conv => lhs; whnf)) | ((with_reducible first | apply qA6 | apply qAb | apply qAe | apply qAA | apply qBM | apply qAi) <;> first | ((with_reducible apply tyOk); eq_refl) | eq_refl | exact trivial | decide) | ((with_reducible apply qDp); eq_refl; (first | assumption | decide); (conv => lhs; whnf)) | ((with_reducible apply qAg); exact tyOk rfl; eq_refl; eq_refl) | ((with_reducible apply qAj); exact tyOk rfl; (iterate 4 eq_refl); assumption)) | ((with_reducible apply rp1); first | (exact qCq 83 rfl rfl (qCa (k := bs) (tyOk rfl) rfl (tyOk rfl) rfl (tyOk rfl) rfl rfl)) | (exact qC2 (tyOk rfl) rfl rfl rfl)) | ((with_reducible apply rpN); ((with_reducible apply qAL); exact tyOk rfl; eq_refl; eq_refl; (conv => lhs; whnf); eq_refl; eq_refl; exact qle rfl)) | ((with_reducible apply qBl); eq_refl; eq_refl) | ((with_reducible apply qBr); eq_refl; eq_refl) | ((first | (with_reducible apply rpGF) | (with_reducible apply drGF)); eq_refl; exact qAt rfl; (first | assumption | decide | eq_refl); (focus repeat' (first | exact trivial | exact id | apply And.intro))))
              clear hg hb1
              refine qB5 (fun m st => ∃ pos, pos ≤ q ∧ Lib.validD (bs.drop pos) = Lib.validD bs ∧ q + 1 - pos = m ∧ st = ⟨[(0, .px 1000 0), (2, .px 2 0), (4, .ow 2000 q), (85, .px 85 0)], [(1000, .var 73 [.d (strD s), .d (iD (i + 1 + (k + 1) : Nat))]), (2, .var 32 (noT.map .d)), (2000, .frz 1 (bs.map fun c => [u8D c])), (85, .itr (byS bs) pos)]⟩) _ _ ?_ ⟨0, Nat.zero_le _, rfl, rfl, rfl⟩ ?_
              · refine qAT [] (by repeat' (first | exact qA0 | (refine qAH rfl (by exact SubA.refl _) ?_))) (by repeat' (first | exact trivial | eq_refl | apply And.intro)) rfl (insS rfl) (by repeat' (first | exact trivial | exact qBu _ | exact qDC rfl | exact qBc rfl | apply And.intro))
              · rintro m2 st2 ⟨pos, hp, hv, rfl, rfl⟩
                have hsz : (byS bs).size = q := by rw [qDK]; exact hbl
                rcases Nat.lt_or_ge pos q with hplt | hpge
                · have hne : bs.drop pos ≠ [] := fun e => by
                    have := congrArg List.length e
                    rw [List.length_drop] at this
                    simp at this
                    omega
                  have hdec : Utf8.decode (byS bs) pos = Lib.decodeL (bs.drop pos) := (Lib.decodeL_drop (byS bs) pos).symm
                  have hstep := Lib.validD_step (bs.drop pos) hne
                  have hle := Lib.decodeL_le (bs.drop pos) hne
                  have hw := Lib.decodeL_width (bs.drop pos)
                  have d1 := decode_pc (bs.drop pos) hne
                  have hnx := fun (P : Program) (dst : Option Nat) (ty : TypeId) (x : Operand) (e : Operand → A) (β : Bx) id (hx : e x = .px id 0) (hl : look id β = some (.itr (byS bs) pos)) => qE5 (P := P) (dst := dst) (ty := ty) hx hl (show pos < (byS bs).size by omega)
                  simp only [hdec] at hnx
                  rw [List.length_drop] at hle
                  rw [List.drop_drop] at hstep
                  rw [hstep] at hv
                  have hsl : (bs.take bs.length).drop pos = bs.drop pos := by rw [List.take_length]
                  generalize bs.drop pos = u at *
                  generalize (Lib.decodeL u).1 = cd at *
                  generalize (Lib.decodeL u).2 = wd at *
                  by_cases hcd : cd = 65533
                  · have e1 : ((cd : Int) == 65533) = true := by rw [hcd]; rfl
                    by_cases hwd : wd = 1
                    · rw [if_pos ⟨hcd, hwd⟩] at hv
                      rw [← hv] at h
                      have h : LR.err 3 = r := h
                      subst h
                      have e2 : ((wd : Int) == 1) = true := by rw [hwd]; rfl
                      repeat (first | ((first | (with_reducible apply rpGT) | (with_reducible apply drGT) | (with_reducible apply qAP) | (with_reducible apply qAO)); eq_refl; (first | exact qAo rfl | exact qAt rfl | exact qAw rfl | exact qAy rfl); (first | eq_refl | assumption | decide); (focus repeat' (first | exact trivial | exact id | apply And.intro | (intro h; (first | exact h | (simp only [Bool.and_eq_true] at h; (first | exact h.1 | exact h.1.1 | exact h.1.1.1 | exact h.2)) | (rw [h]; rfl) | (rw [zh, h]; rfl) | simp_all)))); ((first | (exact hnx _ _ _ _ _ _ _ rfl rfl) | (exact qAK e1 rfl rfl) | (exact qAK e2 rfl rfl) | (exact qCq 93 rfl rfl (qCO (f := fun c => [u8D c]) (L := bs) (l := pos) (h := bs.length) (tyOk rfl) rfl (tyOk rfl) rfl rfl ⟨_, _, rfl, rfl⟩ rfl (by omega) (Nat.le_refl _) hsl)) | ((with_reducible apply qAd); eq_refl; eq_refl; exact (d1); eq_refl) | ((with_reducible first | apply qAc | apply qAa); (conv => lhs; whnf)) | ((with_reducible first | apply qAv | apply qA9 | apply qAf) <;> first | ((with_reducible apply tyOk); eq_refl) | eq_refl)); (first | exact qAh _ | exact qAp _ _ | exact qAr _ _ _ | exact qAq _ _ _ _))) | (with_reducible first | apply qAl | apply qAm | apply qAn | apply qAk | apply qAs | apply qAF | apply qBs | apply qBN | apply qBD | apply qAC) | ((with_reducible apply rp); first | (exact qAK e1 rfl rfl) | (exact qAK e2 rfl rfl) | ((with_reducible apply qAd); eq_refl; eq_refl; exact (d1); eq_refl) | ((with_reducible apply qAc); (conv => lhs; whnf)) | ((with_reducible apply qAa); (conv => lhs; whnf)) | ((with_reducible apply qAv); eq_refl; eq_refl) | ((with_reducible apply qA9); exact tyOk rfl; eq_refl; eq_refl)) | ((with_reducible apply rp1); first | (exact hnx _ _ _ _ _ _ _ rfl rfl) | (exact qCq 93 rfl rfl (qCO (f := fun c => [u8D c]) (L := bs) (l := pos) (h := bs.length) (tyOk rfl) rfl (tyOk rfl) rfl rfl ⟨_, _, rfl, rfl⟩ rfl (by omega) (Nat.le_refl _) hsl))) | ((with_reducible apply rpN); ((with_reducible apply qAf); exact tyOk rfl; (iterate 5 eq_refl))) | ((with_reducible apply qBr); eq_refl; eq_refl))
                      (with_reducible apply qBa (l := [])); (focus (repeat' (first | (with_reducible apply qAE) | (with_reducible apply qAx) | ((with_reducible apply qAI); eq_refl) | ((with_reducible apply qBh); eq_refl; eq_refl; exact tyOk rfl; eq_refl; eq_refl)))); eq_refl; exact SubD.refl _; refine ⟨(by repeat' (first | exact qA0 | (refine qAH rfl (by exact SubA.refl _) ?_))), (by repeat' (first | exact trivial | eq_refl | apply And.intro)), rfl, insS rfl, (by repeat' (first | exact trivial | exact qBc rfl | apply And.intro))⟩
                    · rw [if_neg fun e => hwd e.2] at hv
                      have e2 : ((wd : Int) == 1) = false := by rw [beq_eq_false_iff_ne]; omega
                      repeat (first | ((first | (with_reducible apply rpGT) | (with_reducible apply drGT) | (with_reducible apply qAP) | (with_reducible apply qAO)); eq_refl; (first | exact qAo rfl | exact qAt rfl | exact qAw rfl | exact qAy rfl); (first | eq_refl | assumption | decide); (focus repeat' (first | exact trivial | exact id | apply And.intro | (intro h; (first | exact h | (simp only [Bool.and_eq_true] at h; (first | exact h.1 | exact h.1.1 | exact h.1.1.1 | exact h.2)) | (rw [h]; rfl) | (rw [zh, h]; rfl) | simp_all)))); ((first | (exact hnx _ _ _ _ _ _ _ rfl rfl) | (exact qAK e1 rfl rfl) | (exact qAK e2 rfl rfl) | (exact qCq 93 rfl rfl (qCO (f := fun c => [u8D c]) (L := bs) (l := pos) (h := bs.length) (tyOk rfl) rfl (tyOk rfl) rfl rfl ⟨_, _, rfl, rfl⟩ rfl (by omega) (Nat.le_refl _) hsl)) | ((with_reducible apply qAd); eq_refl; eq_refl; exact (d1); eq_refl) | ((with_reducible first | apply qAc | apply qAa); (conv => lhs; whnf)) | ((with_reducible apply qAv); eq_refl; eq_refl)); (first | exact qAh _ | exact qAp _ _ | exact qAr _ _ _ | exact qAq _ _ _ _))) | (with_reducible first | apply qAl | apply qAm | apply qAn | apply qAk | apply qAs | apply qA2 | apply qAC) | ((with_reducible apply rp); first | (exact qAK e1 rfl rfl) | (exact qAK e2 rfl rfl) | ((with_reducible apply qAd); eq_refl; eq_refl; exact (d1); eq_refl) | ((with_reducible apply qAc); (conv => lhs; whnf)) | ((with_reducible apply qAa); (conv => lhs; whnf)) | ((with_reducible apply qAv); eq_refl; eq_refl)) | ((with_reducible apply rp1); first | (exact hnx _ _ _ _ _ _ _ rfl rfl) | (exact qCq 93 rfl rfl (qCO (f := fun c => [u8D c]) (L := bs) (l := pos) (h := bs.length) (tyOk rfl) rfl (tyOk rfl) rfl rfl ⟨_, _, rfl, rfl⟩ rfl (by omega) (Nat.le_refl _) hsl))) | ((with_reducible apply qBl); eq_refl; eq_refl) | ((with_reducible apply qBr); eq_refl; eq_refl))
                      refine ⟨_, _, ?_, ?_, pos + wd, by omega, hv, rfl, rfl⟩
                      · omega
                      · refine qAT [] (by repeat' (first | exact qA0 | (refine qAH rfl (by exact SubA.refl _) ?_))) (by repeat' (first | exact trivial | eq_refl | apply And.intro)) rfl (insS rfl) (by repeat' (first | exact trivial | exact qBu _ | exact qDC rfl | exact qBc rfl | apply And.intro))
                  · have e1 : ((cd : Int) == 65533) = false := by rw [beq_eq_false_iff_ne]; omega
                    rw [if_neg fun e => hcd e.1] at hv
                    repeat (first | ((first | (with_reducible apply rpGT) | (with_reducible apply drGT) | (with_reducible apply qAP) | (with_reducible apply qAO)); eq_refl; (first | exact qAo rfl | exact qAt rfl | exact qAw rfl | exact qAy rfl); (first | eq_refl | assumption | decide); (focus repeat' (first | exact trivial | exact id | apply And.intro | (intro h; (first | exact h | (simp only [Bool.and_eq_true] at h; (first | exact h.1 | exact h.1.1 | exact h.1.1.1 | exact h.2)) | (rw [h]; rfl) | (rw [zh, h]; rfl) | simp_all)))); ((first | (exact hnx _ _ _ _ _ _ _ rfl rfl) | (exact qAK e1 rfl rfl) | ((with_reducible first | apply qAc | apply qAa); (conv => lhs; whnf)) | ((with_reducible apply qAv); eq_refl; eq_refl)); (first | exact qAh _ | exact qAp _ _ | exact qAr _ _ _ | exact qAq _ _ _ _))) | (with_reducible first | apply qAl | apply qAm | apply qAn | apply qAk | apply qAs | apply qA2 | apply qAC) | ((with_reducible apply rp); first | (exact qAK e1 rfl rfl) | ((with_reducible apply qAc); (conv => lhs; whnf)) | ((with_reducible apply qAa); (conv => lhs; whnf)) | ((with_reducible apply qAv); eq_refl; eq_refl)) | ((with_reducible apply rp1); (exact hnx _ _ _ _ _ _ _ rfl rfl)) | ((with_reducible apply qBl); eq_refl; eq_refl) | ((with_reducible apply qBr); eq_refl; eq_refl))
                    refine ⟨_, _, ?_, ?_, pos + wd, by omega, hv, rfl, rfl⟩
                    · omega
                    · refine qAT [] (by repeat' (first | exact qA0 | (refine qAH rfl (by exact SubA.refl _) ?_))) (by repeat' (first | exact trivial | eq_refl | apply And.intro)) rfl (insS rfl) (by repeat' (first | exact trivial | exact qBu _ | exact qDC rfl | exact qBc rfl | apply And.intro))
                · rw [List.drop_eq_nil_of_le (by omega)] at hv
                  have hv : true = Lib.validD bs := hv
                  rw [← hv] at h
                  have h : LR.ok ⟨4, ⟨bs.toArray⟩, 0, 0⟩ (k + 1 + 1) = r := h
                  subst h
                  repeat (first | ((first | (with_reducible apply rpGT) | (with_reducible apply drGT) | (with_reducible apply qAP) | (with_reducible apply qAO)); eq_refl; (first | exact qAo rfl | exact qAt rfl | exact qAw rfl | exact qAy rfl); (first | eq_refl | assumption | decide); (focus repeat' (first | exact trivial | exact id | apply And.intro | (intro h; (first | exact h | (simp only [Bool.and_eq_true] at h; (first | exact h.1 | exact h.1.1 | exact h.1.1.1 | exact h.2)) | (rw [h]; rfl) | (rw [zh, h]; rfl) | simp_all)))); ((first | (exact qCd rfl rfl (show (byS bs).size ≤ pos by omega)) | (exact qCq 102 rfl rfl (qCa (k := bs) (tyOk rfl) rfl (tyOk rfl) rfl (tyOk rfl) rfl rfl)) | ((with_reducible first | apply qAc | apply qAa); (conv => lhs; whnf)) | ((with_reducible first | apply qAv | apply qAf) <;> first | ((with_reducible apply tyOk); eq_refl) | eq_refl) | ((with_reducible apply qAQ); exact tyOk rfl; eq_refl; eq_refl; (focus repeat' (first | eq_refl | refine ⟨_, _, rfl, rfl, qle rfl, rfl, ?_⟩)); eq_refl)); (first | exact qAh _ | exact qAp _ _ | exact qAr _ _ _ | exact qAq _ _ _ _))) | (with_reducible first | apply qAl | apply qAm | apply qAn | apply qAk | apply qBJ | apply qBL | apply qBK | apply qAF | apply qBD) | ((with_reducible apply rp); first | (exact qCd rfl rfl (show (byS bs).size ≤ pos by omega)) | ((with_reducible apply qAc); (conv => lhs; whnf)) | ((with_reducible apply qAa); (conv => lhs; whnf)) | ((with_reducible apply qAv); eq_refl; eq_refl) | ((with_reducible apply qAQ); exact tyOk rfl; eq_refl; eq_refl; (focus repeat' (first | eq_refl | refine ⟨_, _, rfl, rfl, qle rfl, rfl, ?_⟩)); eq_refl)) | ((with_reducible apply rp1); (exact qCq 102 rfl rfl (qCa (k := bs) (tyOk rfl) rfl (tyOk rfl) rfl (tyOk rfl) rfl rfl))) | ((with_reducible apply rpN); ((with_reducible apply qAf); exact tyOk rfl; (iterate 5 eq_refl))) | ((with_reducible apply qBl); eq_refl; eq_refl))
                  (with_reducible apply qBa (l := [])); (focus (repeat' (first | (with_reducible apply qAE) | (with_reducible apply qAx) | ((with_reducible apply qAI); eq_refl) | ((with_reducible apply qBh); eq_refl; eq_refl; exact tyOk rfl; eq_refl; eq_refl)))); eq_refl; exact SubD.refl _; refine ⟨(by repeat' (first | exact qA0 | (refine qAH rfl (by exact SubA.refl _) ?_))), (by repeat' (first | exact trivial | eq_refl | apply And.intro)), rfl, insS rfl, (by repeat' (first | exact trivial | exact qBc rfl | apply And.intro))⟩
      · rw [hr, quo_cons hc] at hQ
        have hQ : quoF (qAN s (i + 1)) = (quoF (qAN s (i + 1 + (k + 1)))).map (fun r => ((bs ++ [c]) ++ r.1, k + 1 + r.2)) := by
          rw [hQ, Option.map_map]
          show Option.map _ (quoF (qAN s (i + 1 + k + 1))) = Option.map _ (quoF (qAN s (i + 1 + k + 1)))
          congr 1
          funext r
          show (bs ++ c :: r.1, k + (r.2 + 1)) = (bs ++ [c] ++ r.1, k + 1 + r.2)
          rw [List.append_assoc, show k + (r.2 + 1) = k + 1 + r.2 by omega]
          rfl
        have hc39 := u8_ne (c := c) (n := 39) (by decide) hc
        have e1 : (bs ++ [c]).map (fun c => [u8D c]) = bs.map (fun c => [u8D c]) ++ [[u8D c]] := by rw [List.map_append]; rfl
        have l1 : (bs.map fun c => [u8D c]).length = q := by rw [List.length_map]; exact hbl
        have l2 : (bs ++ [c]).length = q + 1 := by rw [List.length_append, hbl]; rfl
        generalize bs ++ [c] = b2 at *
        generalize bs.map (fun c => [u8D c]) = z at *
        clear h hr
        repeat (first | ((first | (with_reducible apply rpGT) | (with_reducible apply drGT) | (with_reducible apply qAP) | (with_reducible apply qAO)); eq_refl; (first | exact qAo rfl | exact qAt rfl | exact qAw rfl | exact qAy rfl); (first | eq_refl | assumption | decide); (focus repeat' (first | exact trivial | exact id | apply And.intro | (intro h; (first | exact h | (simp only [Bool.and_eq_true] at h; (first | exact h.1 | exact h.1.1 | exact h.1.1.1 | exact h.2)) | (rw [h]; rfl) | (rw [zh, h]; rfl) | simp_all)))); ((first | (exact qAR hg rfl rfl) | (exact qAK hc39 rfl rfl) | (exact qAW (z := ((i + 1 + (k + 1) : Nat) : Int)) (by omega) (by omega) (by omega) rfl rfl) | ((with_reducible first | apply qAc | apply qAa); (conv => lhs; whnf)) | ((with_reducible first | apply qAb | apply qAe | apply qAg | apply qAi) <;> first | ((with_reducible apply tyOk); eq_refl) | eq_refl | decide) | ((with_reducible apply qAj); exact tyOk rfl; (iterate 4 eq_refl); assumption) | ((with_reducible apply qAV); exact tyOk rfl; eq_refl; exact tyOk rfl; eq_refl; eq_refl; (focus repeat' (first | exact trivial | refine And.intro rfl (And.intro rfl ?_))); decide; decide; eq_refl) | ((with_reducible apply qBx); exact tyOk rfl; eq_refl; exact tyOk rfl; (iterate 3 eq_refl); decide; (first | (dsimp only; simp only [List.length_map, List.length_append, List.length_cons, List.length_nil] at *; omega) | (simp only [List.length_map, List.length_append, List.length_cons, List.length_nil] at *; omega)); (first | (dsimp only; simp only [List.length_map, List.length_append, List.length_cons, List.length_nil] at *; omega) | (simp only [List.length_map, List.length_append, List.length_cons, List.length_nil] at *; omega)); eq_refl) | ((with_reducible apply qAL); exact tyOk rfl; eq_refl; eq_refl; (conv => lhs; whnf); eq_refl; eq_refl; exact qle rfl)); (first | exact qAh _ | exact qAp _ _ | exact qAr _ _ _ | exact qAq _ _ _ _))) | (with_reducible first | apply qAl | apply qAm | apply qAn | apply qAk | apply qBi | apply qAs | apply qA2 | apply qAC) | ((with_reducible apply qBt); (first | kernel_rfl | eq_refl)) | ((with_reducible first | apply rp | apply dr); first | (exact qAR hg rfl rfl) | (exact qAK hc39 rfl rfl) | (exact qAW (z := ((i + 1 + (k + 1) : Nat) : Int)) (by omega) (by omega) (by omega) rfl rfl) | ((with_reducible first | apply qAc | apply qAa); (conv => lhs; whnf)) | ((with_reducible first | apply qAb | apply qAe | apply qAg | apply qAi) <;> first | ((with_reducible apply tyOk); eq_refl) | eq_refl | decide) | ((with_reducible apply qAj); exact tyOk rfl; (iterate 4 eq_refl); assumption)) | ((with_reducible apply rp1); ((with_reducible apply qAV); exact tyOk rfl; eq_refl; exact tyOk rfl; eq_refl; eq_refl; (focus repeat' (first | exact trivial | refine And.intro rfl (And.intro rfl ?_))); decide; decide; eq_refl)) | ((with_reducible apply rp2); ((with_reducible apply qBx); exact tyOk rfl; eq_refl; exact tyOk rfl; (iterate 3 eq_refl); decide; (first | (dsimp only; simp only [List.length_map, List.length_append, List.length_cons, List.length_nil] at *; omega) | (simp only [List.length_map, List.length_append, List.length_cons, List.length_nil] at *; omega)); (first | (dsimp only; simp only [List.length_map, List.length_append, List.length_cons, List.length_nil] at *; omega) | (simp only [List.length_map, List.length_append, List.length_cons, List.length_nil] at *; omega)); eq_refl)) | ((with_reducible apply rpN); ((with_reducible apply qAL); exact tyOk rfl; eq_refl; eq_refl; (conv => lhs; whnf); eq_refl; eq_refl; exact qle rfl)) | ((with_reducible apply qBl); eq_refl; eq_refl))
        refine ⟨_, _, ?_, ?_, k + 1, q + 1, b2, by omega, l2, by omega, hQ, rfl, rfl⟩
        · omega
        · rw [e1]
          refine qAT [(2000, 78)] (by repeat' (first | exact qA0 | (refine qAH rfl (by (first | exact SubA.refl _ | exact subA_ow (by (simp; omega)))) ?_))) ?_ rfl (by repeat' (first | exact trivial | exact qBu _ | exact qDC rfl | exact qBc rfl | apply And.intro)) (by repeat' (first | exact trivial | exact qBu _ | exact qDC rfl | exact qBc rfl | apply And.intro))
          exact qDi rfl rfl (qDi rfl rfl (qDi rfl (row_eq rfl) kb_nil))
    · have hg : decide (((i + 1 + k : Nat) : Int) ≥ (s.size : Nat)) = true := decide_eq_true (by omega)
      rw [qDt hge] at hQ
      have hQ : quoF (qAN s (i + 1)) = none := hQ
      have hP : quoP (qAN s (i + 1)) = k := by unfold quoP; rw [hQ]; show (qAN s (i + 1)).length = k; omega
      rw [hQ] at h
      have h : LR.err 4 = r := h
      subst h
      rw [hP]
      repeat (first | ((first | (with_reducible apply rpGT) | (with_reducible apply drGT) | (with_reducible apply qAP) | (with_reducible apply qAO)); eq_refl; (first | exact qAo rfl | exact qAt rfl | exact qAw rfl | exact qAy rfl); (first | eq_refl | assumption | decide); (focus repeat' (first | exact trivial | exact id | apply And.intro | (intro h; (first | exact h | (simp only [Bool.and_eq_true] at h; (first | exact h.1 | exact h.1.1 | exact h.1.1.1 | exact h.2)) | (rw [h]; rfl) | (rw [zh, h]; rfl) | simp_all)))); ((first | (exact qAR hg rfl rfl) | ((with_reducible first | apply qAc | apply qAa); (conv => lhs; whnf)) | ((with_reducible first | apply qAb | apply qAe | apply qAg | apply qA9 | apply qAi | apply qAf) <;> first | ((with_reducible apply tyOk); eq_refl) | eq_refl | decide)); (first | exact qAh _ | exact qAp _ _ | exact qAr _ _ _ | exact qAq _ _ _ _))) | (with_reducible first | apply qAl | apply qAm | apply qAn | apply qAk | apply qBi | apply qAs | apply qAF | apply qBs | apply qBN | apply qBD) | ((with_reducible apply qBt); (first | kernel_rfl | eq_refl)) | ((with_reducible first | apply rp | apply dr); first | (exact qAR hg rfl rfl) | ((with_reducible first | apply qAc | apply qAa); (conv => lhs; whnf)) | ((with_reducible first | apply qAb | apply qAe | apply qAg | apply qA9 | apply qAi) <;> first | ((with_reducible apply tyOk); eq_refl) | eq_refl | decide)) | ((with_reducible apply rpN); ((with_reducible apply qAf); exact tyOk rfl; (iterate 5 eq_refl))) | ((with_reducible apply qBr); eq_refl; eq_refl))
      (with_reducible apply qBa (l := [])); (focus (repeat' (first | (with_reducible apply qAE) | (with_reducible apply qAx) | ((with_reducible apply qAI); eq_refl) | ((with_reducible apply qBh); eq_refl; eq_refl; exact tyOk rfl; eq_refl; eq_refl)))); eq_refl; exact SubD.refl _; refine ⟨(by repeat' (first | exact qA0 | (refine qAH rfl (by exact SubA.refl _) ?_))), (by repeat' (first | exact trivial | eq_refl | apply And.intro)), rfl, insS rfl, (by repeat' (first | exact trivial | exact qBc rfl | apply And.intro))⟩
end Go.Proofs.YtlpnnnmdkglkcaaDoor

