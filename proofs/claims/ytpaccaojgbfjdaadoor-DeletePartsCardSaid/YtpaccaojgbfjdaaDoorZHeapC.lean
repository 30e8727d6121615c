/-
  chirographkeep's heap of raw things: Cols, next, leaf, op1, op2 as contracts. No condition but the sizes.
-/
import Derived.Test.YtpaccaojgbfjdaaDoorZHp
import Derived.Test.YtpaccaojgbfjdaaDoorZSomeP
import Derived.Test.YtpaccaojgbfjdaaDoorZG
import Derived.Test.YtpaccaojgbfjdaaDoorZC
set_option linter.unusedSimpArgs false
set_option linter.unusedVariables false
namespace Go.Proofs.YtpaccaojgbfjdaaDoor
open Go.RowKit

section
variable {P : Program} {fr : Nat} {dst : Option Nat} {ty : TypeId} {e : Operand → A} {β : Bx}
theorem does_frzV {op : Op} (t : Nat) {id n sz : Nat} {es : List (List D)} {v : A} {rd : List Nat} (hx : e (.tmp t) = .ow id n) (hro : qBv β id = some (sz, es))
    (h : Does P dst op ty (setE e t (.d (.sl sz es))) ([(id, .frz sz es)] ++ β) v [] rd) : Does P dst op ty e β v [(id, .frz sz es)] (id :: rd) := does_frz t hx hro h
end
theorem qFO (a : D) {b c d e f : D} : SubD (.ag [a, b, c, d, e, f, .nl]) (.ag [a, b, c, d, e, f, .sl 7 []]) :=
  SubD.ag (qBC.cons (SubD.refl _) (fun h => h) (qBC.cons (SubD.refl _) (fun h => h) (qBC.cons (SubD.refl _) (fun h => h) (qBC.cons (SubD.refl _) (fun h => h) (qBC.cons (SubD.refl _) (fun h => h) (qBC.cons (SubD.refl _) (fun h => h) (qBC.cons (SubD.nil 7) (fun h => h) qBC.nil)))))))
theorem op1_pc (op : Nat) (a : Ex) : PC Tryd.prog 47 [iD op, .ag a.cs] (.ag (Ex.un op a).cs) := by
  show PC _ _ _ (.ag [iD op, iD 0, iD 0, qD 0, strD .empty, strD .empty, .sl 7 [a.cs]])
  have hcl := a.cs_eq
  generalize a.cs = c at *
  subst hcl
  refine qAs Tryd.func47 rfl (by kernel_rfl) mixed (by kernel_rfl) (qle (by kernel_rfl)) Tryd.results47 ?_
  repeat (first | ((with_reducible apply rp1); (with_reducible apply does_frzV 7); exact rfl; exact rfl; (with_reducible apply qAT); exact tyOk rfl; exact rfl; exact rfl; (focus repeat' (first | exact rfl | refine ⟨_, _, rfl, rfl, qle rfl, rfl, ?_⟩)); exact rfl) | (with_reducible first | apply qAj | apply qAh | apply qAi | apply qAg | apply qAu | apply qAy) | ((with_reducible apply rp); first | ((with_reducible apply qAd); (conv => lhs; whnf)) | ((with_reducible apply qAl); exact tyOk rfl; (iterate 3 exact rfl); exact qle rfl; exact rfl)) | ((with_reducible apply rp1); first | ((with_reducible apply qAn); exact rfl; exact rfl) | ((with_reducible apply qAk); exact tyOk rfl; exact rfl) | ((with_reducible apply qA6); exact tyOk rfl; exact rfl; exact tyOk rfl; exact rfl; exact rfl; (focus repeat' (first | exact trivial | refine And.intro rfl (And.intro rfl ?_))); decide; decide; exact rfl)) | ((with_reducible apply rpN); ((with_reducible apply qAb); exact tyOk rfl; (iterate 5 exact rfl))))
  (with_reducible apply qAz); (focus (repeat' (first | (with_reducible apply qAw) | (with_reducible apply qAr) | ((with_reducible apply qAA); exact rfl; exact rfl; exact tyOk rfl; exact rfl; exact rfl)))); exact rfl; refine SubD.of_eq ?_
  rfl
theorem qCB (op : Nat) (a b : Ex) : PC Tryd.prog 21 [iD op, .ag a.cs, .ag b.cs] (.ag (Ex.bi op a b).cs) := by
  show PC _ _ _ (.ag [iD op, iD 0, iD 0, qD 0, strD .empty, strD .empty, .sl 7 [a.cs, b.cs]])
  have hcl := a.cs_eq
  have hdl := b.cs_eq
  generalize a.cs = c at *
  generalize b.cs = d at *
  subst hcl hdl
  refine qAs Tryd.func21 rfl (by kernel_rfl) mixed (by kernel_rfl) (qle (by kernel_rfl)) Tryd.results21 ?_
  repeat (first | ((with_reducible apply rp1); (with_reducible apply does_frzV 10); exact rfl; exact rfl; (with_reducible apply qAT); exact tyOk rfl; exact rfl; exact rfl; (focus repeat' (first | exact rfl | refine ⟨_, _, rfl, rfl, qle rfl, rfl, ?_⟩)); exact rfl) | (with_reducible first | apply qAj | apply qAh | apply qAi | apply qAg | apply qAu | apply qAy) | ((with_reducible apply rp); first | ((with_reducible apply qAd); (conv => lhs; whnf)) | ((with_reducible apply qAl); exact tyOk rfl; (iterate 3 exact rfl); exact qle rfl; exact rfl)) | ((with_reducible apply rp1); first | ((with_reducible apply qAn); exact rfl; exact rfl) | ((with_reducible apply qAk); exact tyOk rfl; exact rfl) | ((with_reducible apply qA6); exact tyOk rfl; exact rfl; exact tyOk rfl; exact rfl; exact rfl; (focus repeat' (first | exact trivial | refine And.intro rfl (And.intro rfl ?_))); decide; decide; exact rfl)) | ((with_reducible apply rpN); ((with_reducible apply qAb); exact tyOk rfl; (iterate 5 exact rfl))))
  (with_reducible apply qAz); (focus (repeat' (first | (with_reducible apply qAw) | (with_reducible apply qAr) | ((with_reducible apply qAA); exact rfl; exact rfl; exact tyOk rfl; exact rfl; exact rfl)))); exact rfl; refine SubD.of_eq ?_
  rfl
set_option maxHeartbeats 1000000 in
theorem cols_pc (l0 : List Raw) : PC Tryd.prog 35 [qBi l0] (qAY (qDs l0)) := by
  have s1 := some_pc l0 3
  unfold qDs
  have hl : (l0.take 3).length ≤ 3 := by rw [List.length_take]; omega
  generalize l0.take 3 = l at *
  refine qAs Tryd.func35 rfl (by kernel_rfl) mixed (by kernel_rfl) (qle (by kernel_rfl)) Tryd.results35 ?_
  repeat (first | (with_reducible first | apply qAj | apply qAh | apply qAi | apply qAg | apply qAq) | ((with_reducible apply rp); first | ((with_reducible apply qAP); (iterate 3 exact rfl); exact (s1)) | ((with_reducible apply qAd); (conv => lhs; whnf)) | ((with_reducible apply qAa); (conv => lhs; whnf)) | ((with_reducible apply qA3); exact tyOk rfl; exact rfl; exact rfl) | ((with_reducible apply qAT); exact tyOk rfl; exact rfl; exact rfl; (focus repeat' (first | exact rfl | refine ⟨_, _, rfl, rfl, qle rfl, rfl, ?_⟩)); exact rfl)) | ((with_reducible apply rp1); ((with_reducible apply qA6); exact tyOk rfl; exact rfl; exact tyOk rfl; exact rfl; exact rfl; (focus repeat' (first | exact trivial | refine And.intro rfl (And.intro rfl ?_))); decide; decide; exact rfl)))
  refine qBn (fun m s => ∃ k, k ≤ l.length ∧ m = l.length - k ∧ s = ⟨[(3, .ow 1000 (k + 1)), (9, .d (qBi l)), (10, .d (iD l.length)), (11, .d (iD k))], [(1000, .row 52 3 ([strD kN, iD 2, bD false] :: (clsF 0 (l.take k)).map Cl.cs))]⟩) _ _ ?_ ⟨0, by omega, rfl, rfl⟩ ?_
  · refine qAx [(1000, 7)] (by repeat' (first | exact qAI | (refine qAD rfl (by exact SubA.refl _) ?_))) ?_ rfl (by repeat' (first | exact trivial | exact qA7 rfl | refine And.intro ?_ ?_)) (by repeat' (first | exact trivial | exact qA7 rfl | refine And.intro ?_ ?_))
    exact qCt rfl (qE9 rfl) qFb
  · rintro m s ⟨k, hk, rfl, rfl⟩
    repeat (first | (with_reducible first | apply qAj | apply qAh | apply qAi | apply qAg) | ((with_reducible apply rp); ((with_reducible apply qAU); exact rfl; exact rfl)))
    refine qAo rfl (fun hd => ?_) (fun hd => ?_)
    · have hlt : k < l.length := by simp at hd; omega
      clear hd s1
      obtain ⟨r, hr⟩ : ∃ r, l[k]? = some r := ⟨_, List.getElem?_eq_getElem hlt⟩
      have hr2 : (l.map Raw.cs)[k]? = some r.cs := by rw [List.getElem?_map, hr]; rfl
      have p1 := qAO r.kind 4 (by omega) (by omega)
      have p2 := qAO r.a 2 (by omega) (by omega)
      have e1 : (clsF 0 (l.take (k + 1))).map Cl.cs = (clsF 0 (l.take k)).map Cl.cs ++ [(clF k r).cs] := by
        rw [List.take_add_one, hr]
        show (clsF 0 (l.take k ++ [r])).map Cl.cs = _
        rw [clsF_app, List.map_append, List.length_take]
        have e : 0 + min k l.length = k := by omega
        rw [e]
        rfl
      have l1 : ((clsF 0 (l.take k)).map Cl.cs).length = k := by rw [List.length_map, qFp, List.length_take]; omega
      generalize (clsF 0 (l.take k)).map Cl.cs = o at *
      obtain ⟨rk, ra, rb, rt⟩ := r
      unfold Raw.cs at hr2
      unfold clF at e1
      dsimp only at *
      obtain ⟨u, hu⟩ : ∃ u : Nat, rk % ((4 : Nat) : Int) = u := ⟨(rk % 4).toNat, by omega⟩
      rw [hu] at p1
      have hu2 : (rk % 4).toNat = u := by omega
      rw [hu2] at e1
      have hv : (ra % ((2 : Nat) : Int) == 0) = decide (ra % 2 = 0) := by rw [Bool.eq_iff_iff, beq_iff_eq, decide_eq_true_eq]; omega
      repeat (first | (with_reducible first | apply qAj | apply qAh | apply qAi | apply qAg | apply qA5 | apply qAq | apply qAF | apply qAm) | ((with_reducible apply qBh); (first | kernel_rfl | exact rfl)) | ((with_reducible first | apply rp | apply dr); first | ((with_reducible apply qAf); exact rfl; exact rfl; (first | exact (p1) | exact (p2)); exact rfl) | (exact qBG (z := ((1 + u : Nat) : Int)) rfl rfl (by omega) (by omega) (by omega)) | (exact does_slice_str (s := abcN) (l := k) (h := k + 1) (tyOk rfl) rfl rfl ⟨_, _, rfl, rfl⟩ ⟨_, _, rfl, rfl⟩ (by omega) (show k + 1 ≤ 3 by omega)) | ((with_reducible first | apply qAd | apply qAa); (conv => lhs; whnf)) | ((with_reducible first | apply qAc | apply qAe | apply qAt) <;> first | ((with_reducible apply tyOk); exact rfl) | exact rfl | decide) | ((with_reducible apply qAG); exact tyOk rfl; exact rfl; exact rfl; assumption; exact rfl) | ((with_reducible apply qAM); exact tyOk rfl; exact rfl; exact tyOk rfl; (iterate 4 exact rfl); (first | (dsimp only; simp only [List.length_map, List.length_append, List.length_cons, List.length_nil] at *; omega) | (simp only [List.length_map, List.length_append, List.length_cons, List.length_nil] at *; omega))) | ((with_reducible apply qAJ); exact rfl; exact rfl; omega; omega) | ((with_reducible apply qAT); exact tyOk rfl; exact rfl; exact rfl; (focus repeat' (first | exact rfl | refine ⟨_, _, rfl, rfl, qle rfl, rfl, ?_⟩)); exact rfl)) | ((with_reducible first | apply rp1 | apply dr1); first | ((with_reducible apply qAk); exact tyOk rfl; exact rfl) | ((with_reducible apply qA6); exact tyOk rfl; exact rfl; exact tyOk rfl; exact rfl; exact rfl; (focus repeat' (first | exact trivial | refine And.intro rfl (And.intro rfl ?_))); decide; decide; exact rfl)) | ((with_reducible apply dr2); ((with_reducible apply qBx); exact tyOk rfl; exact rfl; exact tyOk rfl; (iterate 3 exact rfl); decide; (first | (dsimp only; simp only [List.length_map, List.length_append, List.length_cons, List.length_nil] at *; omega) | (simp only [List.length_map, List.length_append, List.length_cons, List.length_nil] at *; omega)); (first | (dsimp only; simp only [List.length_map, List.length_append, List.length_cons, List.length_nil] at *; omega) | (simp only [List.length_map, List.length_append, List.length_cons, List.length_nil] at *; omega)); exact rfl)) | ((with_reducible apply rpN); ((with_reducible apply qAb); exact tyOk rfl; (iterate 5 exact rfl))))
      refine ⟨_, _, ?_, ?_, k + 1, by omega, rfl, rfl⟩
      · omega
      · rw [e1]
        refine qAx [(1000, 31)] (by repeat' (first | exact qAI | (refine qAD rfl (by (first | exact SubA.refl _ | exact qDE (by (simp; omega)))) ?_))) ?_ rfl (by repeat' (first | exact trivial | exact qA7 rfl | refine And.intro ?_ ?_)) (by repeat' (first | exact trivial | exact qA7 rfl | refine And.intro ?_ ?_))
        exact qCt rfl (qE9 (by rw [hv]; rfl)) qFb
    · have hke : k = l.length := by simp at hd; omega
      clear hd
      subst hke
      repeat (first | (with_reducible first | apply qAj | apply qAh | apply qAi | apply qAg | apply qBd | apply qBa | apply qBc | apply qAu | apply qAy) | ((with_reducible apply rp); first | ((with_reducible apply qAd); (conv => lhs; whnf)) | ((with_reducible apply qAa); (conv => lhs; whnf))))
      (with_reducible apply qAz); (focus (repeat' (first | (with_reducible apply qAw) | (with_reducible apply qAr) | ((with_reducible apply qAB); exact rfl)))); exact rfl; refine SubD.of_eq ?_
      rw [List.take_length]
      rfl
abbrev hpB (l : List Raw) (n : Nat) (cols : List Cl) : Nat × Box := (1000, .var 50 [.d (qBi l), .d (iD n), .d (qAY cols)])
set_option maxHeartbeats 1000000 in
theorem qBQ (l : List Raw) (n : Nat) (cols : List Cl) (hn : n ≤ 4611686018427387904) : PX Tryd.prog 37 [.px 1000 0] [hpB l n cols] [] (.ag (qA8 l n).cs) [hpB l (n + 1) cols] [] := by
  unfold hpB qA8
  by_cases hl : l = []
  · subst hl
    refine qBg Tryd.func37 rfl (by kernel_rfl) mixed (by kernel_rfl) (qle (by kernel_rfl)) Tryd.results37 rfl ?_
    repeat (first | (with_reducible first | apply qAj | apply qAh | apply qAi | apply qAg | apply qA5 | apply qAu | apply qAS | apply qBK) | ((with_reducible apply qBh); (first | kernel_rfl | exact rfl)) | ((with_reducible first | apply rp | apply dr); first | ((with_reducible apply qAd); (conv => lhs; whnf)) | ((with_reducible first | apply qAc | apply qAe | apply qAt | apply qA3 | apply qBf) <;> first | ((with_reducible apply tyOk); exact rfl) | exact rfl | decide) | ((with_reducible apply qAJ); exact rfl; exact rfl; omega; omega) | ((with_reducible apply qAT); exact tyOk rfl; exact rfl; exact rfl; (focus repeat' (first | exact rfl | refine ⟨_, _, rfl, rfl, qle rfl, rfl, ?_⟩)); exact rfl)) | ((with_reducible apply rp1); ((with_reducible apply qAk); exact tyOk rfl; exact rfl)) | ((with_reducible first | apply rpN | apply drN); first | ((with_reducible apply qBk); exact tyOk rfl; exact rfl; exact rfl; (conv => lhs; whnf); exact rfl; exact rfl; exact qle rfl) | ((with_reducible apply qAb); exact tyOk rfl; (iterate 5 exact rfl))) | ((with_reducible apply qBo); exact rfl; exact rfl))
    (with_reducible apply qBj (l := [])); (focus (repeat' (first | (with_reducible apply qAw) | (with_reducible apply qAr) | ((with_reducible apply qAA); exact rfl; exact rfl; exact tyOk rfl; exact rfl; exact rfl)))); exact rfl; exact SubD.refl _; refine ⟨(by repeat' (first | exact qAI | (refine qAD rfl (by exact SubA.refl _) ?_))), (by repeat' (first | exact trivial | exact rfl | refine And.intro ?_ ?_)), rfl, (by repeat' (first | exact trivial | exact qAp rfl | refine And.intro ?_ ?_)), (by repeat' (first | exact trivial | exact qAp rfl | refine And.intro ?_ ?_))⟩
  · have hp : 0 < l.length := List.length_pos_iff.2 hl
    have hlt : n % l.length < l.length := Nat.mod_lt _ hp
    obtain ⟨r, hr⟩ : ∃ r, l[n % l.length]? = some r := ⟨_, List.getElem?_eq_getElem hlt⟩
    rw [hr]
    have hr2 : (l.map Raw.cs)[n % l.length]? = some r.cs := by rw [List.getElem?_map, hr]; rfl
    obtain ⟨rk, ra, rb, rt⟩ := r
    unfold Raw.cs at *
    dsimp only at *
    refine qBg Tryd.func37 rfl (by kernel_rfl) mixed (by kernel_rfl) (qle (by kernel_rfl)) Tryd.results37 rfl ?_
    repeat (first | (with_reducible first | apply qAj | apply qAh | apply qAi | apply qAg | apply qA5 | apply qAu | apply qBK | apply qAm) | ((with_reducible apply qBh); (first | kernel_rfl | exact rfl)) | ((with_reducible first | apply rp | apply dr); first | (exact does_rem_to (m := n) (n := l.length) rfl (by omega) rfl rfl hp) | (exact does_quo_to (m := n + 1) (n := l.length) rfl rfl rfl hp (by omega)) | ((with_reducible apply qAd); (conv => lhs; whnf)) | ((with_reducible first | apply qAc | apply qAe | apply qAt | apply qA3 | apply qBf) <;> first | ((with_reducible apply tyOk); exact rfl) | exact rfl | decide) | ((with_reducible apply qAl); exact tyOk rfl; (iterate 3 exact rfl); exact qle rfl; exact rfl) | ((with_reducible apply qAG); exact tyOk rfl; exact rfl; exact rfl; assumption; exact rfl) | ((with_reducible apply qAM); exact tyOk rfl; exact rfl; exact tyOk rfl; (iterate 4 exact rfl); (simp only [List.length_map, List.length_append, List.length_cons, List.length_nil] at *; omega)) | ((with_reducible apply qAJ); exact rfl; exact rfl; omega; omega) | ((with_reducible apply qCM); exact rfl; exact rfl; omega; omega) | ((with_reducible apply qF8); exact rfl; exact rfl)) | ((with_reducible first | apply rp1 | apply dr1); ((with_reducible apply qAk); exact tyOk rfl; exact rfl)) | ((with_reducible first | apply rpN | apply drN); first | ((with_reducible apply qBk); exact tyOk rfl; exact rfl; exact rfl; (conv => lhs; whnf); exact rfl; exact rfl; exact qle rfl) | ((with_reducible apply qAb); exact tyOk rfl; (iterate 5 exact rfl))) | ((with_reducible apply qAo); exact rfl; (focus (intro hd; (exfalso; simp at hd; contradiction))); (intro hd; clear hd)))
    (with_reducible apply qBj (l := [])); (focus (repeat' (first | (with_reducible apply qAw) | (with_reducible apply qAr) | ((with_reducible apply qAA); exact rfl; exact rfl; exact tyOk rfl; exact rfl; exact rfl)))); exact rfl; exact SubD.refl _; refine ⟨(by repeat' (first | exact qAI | (refine qAD rfl (by exact SubA.refl _) ?_))), (by repeat' (first | exact trivial | exact rfl | refine And.intro ?_ ?_)), rfl, (by repeat' (first | exact trivial | exact qAp rfl | refine And.intro ?_ ?_)), (by repeat' (first | exact trivial | exact qAp rfl | refine And.intro ?_ ?_))⟩
theorem leafC_drop {K : Nat} {a : Int} {k : Nat} {l : List Cl} {c : Cl} (h : l[k]? = some c) : leafC K a k (l.drop k) = if c.kind = K ∧ a % ((2 + k : Nat) : Int) = 0 then some c else leafC K a (k + 1) (l.drop (k + 1)) := by
  rw [List.drop_eq_getElem?_toList_append, h]
  rfl
set_option maxHeartbeats 4000000 in
theorem leaf_px (l : List Raw) (n : Nat) (cols : List Cl) (hcl : cols.length ≤ 1000) (K : Nat) (hK : K ≤ 4) (r : Raw) : ∃ v : Vl, Gd v ∧ v.k = K ∧ (K ≠ 2 → 0 ≤ v.n) ∧ PX Tryd.prog 46 [.px 1000 0, .d (iD K), .d (.ag r.cs)] [hpB l n cols] [] (.ag (leafF cols K r v).cs) [hpB l n cols] [] := by
  obtain ⟨v, hv, hvk, pv⟩ := valOf_pc K hK r
  refine ⟨v, hv, hvk, fun h2 => ?_, ?_⟩
  · cases hv with
    | int m => exact absurd (show K = 2 by have : (2 : Int) = (K : Int) := hvk; omega) h2
    | bool m hm => show 0 ≤ m; omega
    | _ => exact Int.le_refl _
  have p9 := qAO r.b 9 (by omega) (by omega)
  have p4 := qAO r.b 4 (by omega) (by omega)
  have p20 := qAO r.a 20 (by omega) (by omega)
  unfold hpB leafF
  obtain ⟨oc, hoc⟩ : ∃ oc, leafC K r.a 0 cols = oc := ⟨_, rfl⟩
  rw [hoc]
  obtain ⟨rk, ra, rb, rt⟩ := r
  unfold litF
  unfold Raw.cs at *
  have hv2 : K = 2 → v.k = 2 ∧ v.b = 0 ∧ v.t = .empty := fun h2 => by
    have hk2 : v.k = 2 := by rw [hvk, h2]; rfl
    cases hv with
    | int m => exact ⟨rfl, rfl, rfl⟩
    | null => exact absurd hk2 (by decide)
    | bool m hm => exact absurd hk2 (by show ¬ (1 : Int) = 2; decide)
    | real b h1 h2 h3 => exact absurd hk2 (by show ¬ (3 : Int) = 2; decide)
    | text t h1 h2 => exact absurd hk2 (by show ¬ (4 : Int) = 2; decide)
  clear hv hvk
  obtain ⟨vk, vn, vb, vt⟩ := v
  unfold Vl.cs at *
  dsimp only at *
  refine qBg Tryd.func46 rfl (by kernel_rfl) mixed (by kernel_rfl) (qle (by kernel_rfl)) Tryd.results46 rfl ?_
  repeat (first | (with_reducible first | apply qAj | apply qAh | apply qAi | apply qAg | apply qAq) | ((with_reducible apply rp); first | ((with_reducible apply qAd); (conv => lhs; whnf)) | ((with_reducible apply qAc); exact tyOk rfl; exact rfl; exact rfl; decide; exact rfl) | ((with_reducible apply qAe); exact tyOk rfl; (iterate 4 exact rfl)) | ((with_reducible apply qA3); exact tyOk rfl; exact rfl; exact rfl) | ((with_reducible apply qBf); exact rfl)) | ((with_reducible apply rp1); first | ((with_reducible apply qAn); exact rfl; exact rfl) | ((with_reducible apply qAk); exact tyOk rfl; exact rfl)))
  refine qBn (fun m s => ∃ k, k ≤ cols.length ∧ m = cols.length - k ∧ leafC K ra k (cols.drop k) = oc ∧ s = ⟨[(0, .px 1000 0), (1, .d (iD K)), (5, .px 5 0), (6, .px 6 0), (13, .d (qAY cols)), (14, .d (iD cols.length)), (15, .d (iD k))], [(5, .var 62 [.d (iD rk), .d (iD ra), .d (iD rb), .d (strD rt)]), (6, .var 58 [.d (iD 0), .d (iD 0), .d (iD 0), .d (qD 0), .d (strD .empty), .d (strD .empty), .d .nl]), (1000, .var 50 [.d (qBi l), .d (iD n), .d (qAY cols)])]⟩) _ _ ?_ ⟨0, by omega, rfl, hoc, rfl⟩ ?_
  · refine qAx [] (by repeat' (first | exact qAI | (refine qAD rfl (by exact SubA.refl _) ?_))) (by repeat' (first | exact trivial | exact rfl | refine And.intro ?_ ?_)) rfl (by repeat' (first | exact trivial | exact qAp rfl | refine And.intro ?_ ?_)) (by repeat' (first | exact trivial | exact qAp rfl | refine And.intro ?_ ?_))
  · clear hoc
    rintro m s ⟨k, hk, rfl, hoc, rfl⟩
    repeat (first | (with_reducible first | apply qAj | apply qAh | apply qAi | apply qAg) | ((with_reducible apply rp); ((with_reducible apply qAU); exact rfl; exact rfl)))
    refine qAo rfl (fun hd => ?_) (fun hd => ?_)
    · have hlt : k < cols.length := by simp at hd; omega
      clear hd
      obtain ⟨c, hc⟩ : ∃ c, cols[k]? = some c := ⟨_, List.getElem?_eq_getElem hlt⟩
      have hc2 : (cols.map Cl.cs)[k]? = some c.cs := by rw [List.getElem?_map, hc]; rfl
      rw [leafC_drop hc] at hoc
      have pk := qAO ra (2 + k) (by omega) (by omega)
      obtain ⟨cn, ck, cb⟩ := c
      unfold Cl.cs at hc2
      dsimp only at *
      clear pv p9 p4 p20
      repeat (first | (with_reducible first | apply qAj | apply qAh | apply qAi | apply qAg | apply qAq | apply qAm) | ((first | (with_reducible apply rp) | ((with_reducible apply rpG); exact rfl; exact qAZ rfl; (focus repeat' (first | exact trivial | exact fun h => h | refine And.intro ?_ ?_)); intro hgd; have hgd0 := hgd; (try simp only [decide_eq_true_eq, Bool.and_eq_true, Bool.not_eq_true', beq_iff_eq] at hgd))); first | ((with_reducible apply qAf); exact rfl; exact rfl; exact (pk); exact rfl) | (exact qBG (z := ((2 + k : Nat) : Int)) rfl rfl (by omega) (by omega) (by omega)) | ((with_reducible first | apply qAd | apply qAa); (conv => lhs; whnf)) | ((with_reducible first | apply qAQ | apply qAc | apply qAe | apply qAt) <;> first | ((with_reducible apply tyOk); exact rfl) | exact rfl | exact fun h => h | decide) | ((with_reducible apply qAG); exact tyOk rfl; exact rfl; exact rfl; assumption; exact rfl) | ((with_reducible apply qAM); exact tyOk rfl; exact rfl; exact tyOk rfl; (iterate 4 exact rfl); (simp only [List.length_map, List.length_append, List.length_cons, List.length_nil] at *; omega))) | ((with_reducible apply rp1); ((with_reducible apply qAk); exact tyOk rfl; exact rfl)) | ((with_reducible apply rpN); ((with_reducible apply qAb); exact tyOk rfl; (iterate 5 exact rfl))))
      refine qAo rfl (fun hd => ?_) (fun hd => ?_)
      · have hd2 : ck = K ∧ ra % ((2 + k : Nat) : Int) = 0 := by
          simp only [Bool.and_eq_true, beq_iff_eq] at hd
          exact ⟨by omega, hd.2⟩
        rw [if_pos hd2] at hoc
        subst hoc
        repeat (first | (with_reducible first | apply qAj | apply qAh | apply qAi | apply qAg | apply qAu | apply qAS | apply qBe | apply qBK) | ((with_reducible apply rp); first | ((with_reducible apply qAc); exact tyOk rfl; exact rfl; exact rfl; decide; exact rfl) | ((with_reducible apply qAe); exact tyOk rfl; (iterate 4 exact rfl)) | ((with_reducible apply qAT); exact tyOk rfl; exact rfl; exact rfl; (focus repeat' (first | exact rfl | refine ⟨_, _, rfl, rfl, qle rfl, rfl, ?_⟩)); exact rfl)) | ((with_reducible apply rpN); ((with_reducible apply qAb); exact tyOk rfl; (iterate 5 exact rfl))))
        (with_reducible apply qBj (l := [])); (focus (repeat' (first | (with_reducible apply qAw) | (with_reducible apply qAr) | ((with_reducible apply qAA); exact rfl; exact rfl; exact tyOk rfl; exact rfl; exact rfl)))); exact rfl; exact qFO _; refine ⟨(by repeat' (first | exact qAI | (refine qAD rfl (by exact SubA.refl _) ?_))), (by repeat' (first | exact trivial | exact rfl | refine And.intro ?_ ?_)), rfl, (by repeat' (first | exact trivial | exact qAp rfl | refine And.intro ?_ ?_)), (by repeat' (first | exact trivial | exact qAp rfl | refine And.intro ?_ ?_))⟩
      · have hd2 : ¬ (ck = K ∧ ra % ((2 + k : Nat) : Int) = 0) := by
          rintro ⟨h1, h2⟩
          rw [h1, h2] at hd
          simp at hd
        rw [if_neg hd2] at hoc
        repeat (first | (with_reducible first | apply qAh | apply qAi | apply qAg | apply qAF | apply qAm) | ((with_reducible apply rp); first | ((with_reducible apply qAd); (conv => lhs; whnf)) | ((with_reducible apply qAJ); exact rfl; exact rfl; omega; omega)))
        refine ⟨_, _, ?_, ?_, k + 1, by omega, rfl, hoc, rfl⟩
        · omega
        · refine qAx [] (by repeat' (first | exact qAI | (refine qAD rfl (by exact SubA.refl _) ?_))) (by repeat' (first | exact trivial | exact rfl | refine And.intro ?_ ?_)) rfl (by repeat' (first | exact trivial | exact qAp rfl | refine And.intro ?_ ?_)) (by repeat' (first | exact trivial | exact qAp rfl | refine And.intro ?_ ?_))
    · have hke : k = cols.length := by simp at hd; omega
      clear hd
      subst hke
      rw [List.drop_length] at hoc
      have hoc : none = oc := hoc
      subst hoc
      dsimp only
      repeat (first | (with_reducible first | apply qAj | apply qAh | apply qAi | apply qAg | apply qAq | apply qBd | apply qBa | apply qBc) | ((with_reducible apply rp); first | ((with_reducible apply qAf); exact rfl; exact rfl; exact (pv); exact rfl) | ((with_reducible apply qAf); exact rfl; exact rfl; exact (p9); exact rfl) | ((with_reducible apply qAd); (conv => lhs; whnf)) | ((with_reducible apply qAa); (conv => lhs; whnf)) | ((with_reducible apply qAc); exact tyOk rfl; exact rfl; exact rfl; decide; exact rfl) | ((with_reducible apply qAe); exact tyOk rfl; (iterate 4 exact rfl)) | ((with_reducible apply qAl); exact tyOk rfl; (iterate 3 exact rfl); exact qle rfl; exact rfl) | ((with_reducible apply qAt); exact rfl; exact rfl)) | ((with_reducible apply rp1); ((with_reducible apply qAk); exact tyOk rfl; exact rfl)) | ((with_reducible apply rpN); ((with_reducible apply qAb); exact tyOk rfl; (iterate 5 exact rfl))))
      refine qAo rfl (fun hd => ?_) (fun hd => ?_)
      · have h9 : rb % 9 = 0 := by simpa using hd
        rw [if_pos h9]
        repeat (first | (with_reducible first | apply qAj | apply qAh | apply qAi | apply qAg | apply qAF | apply qAu | apply qBK) | ((with_reducible apply rp); first | ((with_reducible apply qAl); exact tyOk rfl; (iterate 3 exact rfl); exact qle rfl; exact rfl) | ((with_reducible apply qAW); exact tyOk rfl; exact rfl; exact rfl) | ((with_reducible apply qAT); exact tyOk rfl; exact rfl; exact rfl; (focus repeat' (first | exact rfl | refine ⟨_, _, rfl, rfl, qle rfl, rfl, ?_⟩)); exact rfl)) | ((with_reducible apply rpN); ((with_reducible apply qAb); exact tyOk rfl; (iterate 5 exact rfl))))
        (with_reducible apply qBj (l := [])); (focus (repeat' (first | (with_reducible apply qAw) | (with_reducible apply qAr) | ((with_reducible apply qAA); exact rfl; exact rfl; exact tyOk rfl; exact rfl; exact rfl)))); exact rfl; exact qFO _; refine ⟨(by repeat' (first | exact qAI | (refine qAD rfl (by exact SubA.refl _) ?_))), (by repeat' (first | exact trivial | exact rfl | refine And.intro ?_ ?_)), rfl, (by repeat' (first | exact trivial | exact qAp rfl | refine And.intro ?_ ?_)), (by repeat' (first | exact trivial | exact qAp rfl | refine And.intro ?_ ?_))⟩
      · have h9 : ¬ rb % 9 = 0 := by simpa using hd
        rw [if_neg h9]
        repeat (first | (with_reducible first | apply qAj | apply qAh | apply qAi | apply qAg) | ((first | (with_reducible apply rp) | ((with_reducible apply rpG); exact rfl; exact qAZ rfl; (focus repeat' (first | exact trivial | exact fun h => h | refine And.intro ?_ ?_)); intro hgd; have hgd0 := hgd; (try simp only [decide_eq_true_eq, Bool.and_eq_true, Bool.not_eq_true', beq_iff_eq] at hgd))); first | ((with_reducible apply qAf); exact rfl; exact rfl; exact (p4); exact rfl) | ((with_reducible first | apply qAd | apply qAa); (conv => lhs; whnf)) | ((with_reducible first | apply qAQ | apply qAc | apply qAe | apply qAt) <;> first | ((with_reducible apply tyOk); exact rfl) | exact rfl | exact fun h => h | decide)))
        refine qAo rfl (fun hd => ?_) (fun hd => ?_)
        · have h4 : K = 2 ∧ rb % 4 = 0 := by
            simp only [Bool.and_eq_true, beq_iff_eq] at hd
            exact ⟨by omega, hd.2⟩
          rw [if_pos h4]
          obtain ⟨q1, q2, q3⟩ := hv2 h4.1
          subst q1 q2 q3
          repeat (first | (with_reducible first | apply qAj | apply qAh | apply qAi | apply qAg | apply qAF | apply qAu | apply qBK) | ((with_reducible apply rp); first | ((with_reducible apply qAc); exact tyOk rfl; exact rfl; exact rfl; decide; exact rfl) | ((with_reducible apply qAe); exact tyOk rfl; (iterate 4 exact rfl)) | ((with_reducible apply qAl); exact tyOk rfl; (iterate 3 exact rfl); exact qle rfl; exact rfl) | ((with_reducible apply does_band); exact rfl; exact rfl) | ((with_reducible apply qAT); exact tyOk rfl; exact rfl; exact rfl; (focus repeat' (first | exact rfl | refine ⟨_, _, rfl, rfl, qle rfl, rfl, ?_⟩)); exact rfl)) | ((with_reducible apply rpN); first | ((with_reducible apply qBk); exact tyOk rfl; exact rfl; exact rfl; (conv => lhs; whnf); exact rfl; exact rfl; exact qle rfl) | ((with_reducible apply qAb); exact tyOk rfl; (iterate 5 exact rfl))))
          (with_reducible apply qBj (l := [])); (focus (repeat' (first | (with_reducible apply qAw) | (with_reducible apply qAr) | ((with_reducible apply qAA); exact rfl; exact rfl; exact tyOk rfl; exact rfl; exact rfl)))); exact rfl; exact qFO _; refine ⟨(by repeat' (first | exact qAI | (refine qAD rfl (by exact SubA.refl _) ?_))), (by repeat' (first | exact trivial | exact rfl | refine And.intro ?_ ?_)), rfl, (by repeat' (first | exact trivial | exact qAp rfl | refine And.intro ?_ ?_)), (by repeat' (first | exact trivial | exact qAp rfl | refine And.intro ?_ ?_))⟩
        · have h4 : ¬ (K = 2 ∧ rb % 4 = 0) := by
            rintro ⟨h1, h2⟩
            have h2 : rb % ((4 : Nat) : Int) = 0 := h2
            rw [h1, h2] at hd
            simp at hd
          rw [if_neg h4]
          repeat (first | (with_reducible first | apply qAj | apply qAh | apply qAi | apply qAg) | ((with_reducible apply rp); first | ((with_reducible apply qAd); (conv => lhs; whnf)) | ((with_reducible apply qAa); (conv => lhs; whnf)) | ((with_reducible apply qAt); exact rfl; exact rfl)))
          refine qAo rfl (fun hd => ?_) (fun hd => ?_)
          · have h2 : K = 2 := by simp at hd; omega
            rw [if_pos h2]
            obtain ⟨q1, q2, q3⟩ := hv2 h2
            subst q1 q2 q3
            repeat (first | (with_reducible first | apply qAj | apply qAh | apply qAi | apply qAg | apply qAF | apply qAu | apply qBK) | ((with_reducible apply rp); first | ((with_reducible apply qAf); exact rfl; exact rfl; exact (p20); exact rfl) | ((with_reducible apply qAc); exact tyOk rfl; exact rfl; exact rfl; decide; exact rfl) | ((with_reducible apply qAe); exact tyOk rfl; (iterate 4 exact rfl)) | ((with_reducible apply qAl); exact tyOk rfl; (iterate 3 exact rfl); exact qle rfl; exact rfl) | ((with_reducible apply qAT); exact tyOk rfl; exact rfl; exact rfl; (focus repeat' (first | exact rfl | refine ⟨_, _, rfl, rfl, qle rfl, rfl, ?_⟩)); exact rfl)) | ((with_reducible apply rpN); first | ((with_reducible apply qBk); exact tyOk rfl; exact rfl; exact rfl; (conv => lhs; whnf); exact rfl; exact rfl; exact qle rfl) | ((with_reducible apply qAb); exact tyOk rfl; (iterate 5 exact rfl))))
            (with_reducible apply qBj (l := [])); (focus (repeat' (first | (with_reducible apply qAw) | (with_reducible apply qAr) | ((with_reducible apply qAA); exact rfl; exact rfl; exact tyOk rfl; exact rfl; exact rfl)))); exact rfl; exact qFO _; refine ⟨(by repeat' (first | exact qAI | (refine qAD rfl (by exact SubA.refl _) ?_))), (by repeat' (first | exact trivial | exact rfl | refine And.intro ?_ ?_)), rfl, (by repeat' (first | exact trivial | exact qAp rfl | refine And.intro ?_ ?_)), (by repeat' (first | exact trivial | exact qAp rfl | refine And.intro ?_ ?_))⟩
          · have h2 : ¬ K = 2 := by simp at hd; omega
            rw [if_neg h2]
            repeat (first | (with_reducible first | apply qAj | apply qAh | apply qAi | apply qAg | apply qAF | apply qAu | apply qBK | apply qAm) | ((with_reducible apply rp); first | ((with_reducible apply qAl); exact tyOk rfl; (iterate 3 exact rfl); exact qle rfl; exact rfl) | ((with_reducible apply qAT); exact tyOk rfl; exact rfl; exact rfl; (focus repeat' (first | exact rfl | refine ⟨_, _, rfl, rfl, qle rfl, rfl, ?_⟩)); exact rfl)) | ((with_reducible apply rpN); ((with_reducible apply qAb); exact tyOk rfl; (iterate 5 exact rfl))))
            (with_reducible apply qBj (l := [])); (focus (repeat' (first | (with_reducible apply qAw) | (with_reducible apply qAr) | ((with_reducible apply qAA); exact rfl; exact rfl; exact tyOk rfl; exact rfl; exact rfl)))); exact rfl; exact qFO _; refine ⟨(by repeat' (first | exact qAI | (refine qAD rfl (by exact SubA.refl _) ?_))), (by repeat' (first | exact trivial | exact rfl | refine And.intro ?_ ?_)), rfl, (by repeat' (first | exact trivial | exact qAp rfl | refine And.intro ?_ ?_)), (by repeat' (first | exact trivial | exact qAp rfl | refine And.intro ?_ ?_))⟩
end Go.Proofs.YtpaccaojgbfjdaaDoor

