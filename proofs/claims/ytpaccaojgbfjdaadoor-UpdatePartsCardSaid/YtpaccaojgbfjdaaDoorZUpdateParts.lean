/-
  UpdateParts: an update changes the rows of which its condition holds, reckoned of what they were, and no others.
-/
import Derived.Test.YtpaccaojgbfjdaaDoorZU
import Derived.Test.YtpaccaojgbfjdaaDoorZTbV
import Derived.Test.YtpaccaojgbfjdaaDoorZH
import Derived.Test.YtpaccaojgbfjdaaDoorZHeapR
import Derived.Test.YtpaccaojgbfjdaaDoorZPlEn
set_option linter.unusedSimpArgs false
set_option linter.unusedVariables false
namespace Go.Proofs.YtpaccaojgbfjdaaDoor
open Go.RowKit

theorem numberU_pc (n : Int) : PC Tryd.prog 29 [iD n] (.ag (Ex.lit (numV n)).cs) := by
  refine qAs Tryd.func29 rfl (by kernel_rfl) mixed (by kernel_rfl) (qle (by kernel_rfl)) Tryd.results29 ?_
  repeat (first | ((first | (with_reducible apply rpGT) | (with_reducible apply drGT) | (with_reducible apply qCj) | (with_reducible apply qCh)); eq_refl; (first | exact qAT rfl | exact qAP rfl | exact qBk rfl | exact qBs rfl); (first | eq_refl | assumption | decide); (focus repeat' (first | exact trivial | exact id | apply And.intro | (intro h; (first | exact h | (simp only [Bool.and_eq_true] at h; (first | exact h.1 | exact h.1.1 | exact h.1.1.1 | exact h.2)) | (rw [h]; rfl) | (rw [zh, h]; rfl) | simp_all)))); ((first | ((with_reducible apply qAd); (conv => lhs; whnf)) | ((with_reducible apply qAR); exact tyOk rfl; eq_refl; eq_refl; (focus repeat' (first | eq_refl | refine ⟨_, _, rfl, rfl, qle rfl, rfl, ?_⟩)); eq_refl) | ((with_reducible first | apply qAk | apply qAb) <;> first | ((with_reducible apply tyOk); eq_refl) | eq_refl)); (first | exact qAB _ | exact qBQ _ _ | exact qBP _ _ _ | exact qBO _ _ _ _))) | (with_reducible first | apply qAj | apply qAi | apply qAh | apply qAf | apply qAu | apply qAz) | ((with_reducible apply rp); first | ((with_reducible apply qAd); (conv => lhs; whnf)) | ((with_reducible apply qAR); exact tyOk rfl; eq_refl; eq_refl; (focus repeat' (first | eq_refl | refine ⟨_, _, rfl, rfl, qle rfl, rfl, ?_⟩)); eq_refl)) | ((with_reducible apply rp1); ((with_reducible apply qAk); exact tyOk rfl; eq_refl)) | ((with_reducible apply rpN); ((with_reducible apply qAb); exact tyOk rfl; (iterate 5 eq_refl))))
  (with_reducible apply qAA); (focus (repeat' (first | (with_reducible apply qAv) | (with_reducible apply qAq) | ((with_reducible apply qAy); eq_refl; eq_refl; exact tyOk rfl; eq_refl; eq_refl)))); exact rfl
  exact qET _
abbrev upM : Ex := .bi 7 (.col kN) (.lit (numV 3))
abbrev upX : Ex := .bi 5 upM (.lit (numV 1))
theorem reck_key {a : Int} (h1 : -3 ≤ a) (h2 : a < 8) : reckN 7 a 3 = ⟨numV (3 * a), 0⟩ ∧ reckN 5 (3 * a) 1 = ⟨numV (3 * a + 1), 0⟩ := by
  rcases (by omega : a = -3 ∨ a = -2 ∨ a = -1 ∨ a = 0 ∨ a = 1 ∨ a = 2 ∨ a = 3 ∨ a = 4 ∨ a = 5 ∨ a = 6 ∨ a = 7) with rfl | rfl | rfl | rfl | rfl | rfl | rfl | rfl | rfl | rfl | rfl <;> exact ⟨rfl, rfl⟩
theorem up_ev {l : List Cl} {row : List Vl} (hr : FitR row (⟨kN, 2, false⟩ :: l)) (h1 : -3 ≤ keyN row) (h2 : keyN row < 8) : evF (⟨kN, 2, false⟩ :: l) row upX = ⟨numV (3 * keyN row + 1), 0⟩ := by
  obtain ⟨kr, lr, rfl⟩ := qCm hr ⟨_, l, rfl⟩
  have h1 : -3 ≤ kr := h1
  have h2 : kr < 8 := h2
  obtain ⟨r1, r2⟩ := reck_key h1 h2
  have hf : qF7 kN 0 (⟨kN, 2, false⟩ :: l) = some 0 := by
    show (if kN = kN then some 0 else _) = _
    rw [if_pos rfl]
  have e1 : evF (⟨kN, 2, false⟩ :: l) (numV kr :: lr) (.col kN) = ⟨numV kr, 0⟩ := by
    unfold evF
    rw [hf]
    rfl
  have e2 : evF (⟨kN, 2, false⟩ :: l) (numV kr :: lr) upM = ⟨numV (3 * kr), 0⟩ := by
    show evF _ _ (.bi 7 _ _) = _
    rw [evF, e1]
    show (if (0 : Nat) = 0 then (if qED 7 (numV kr) = true then _ else if (0 : Nat) = 0 then twoF 7 (numV kr) (numV 3) else _) else _) = _
    rw [if_pos rfl, if_neg (by show ¬ false = true; decide), if_pos rfl]
    show reckN 7 kr 3 = _
    exact r1
  show evF _ _ (.bi 5 _ _) = _
  rw [evF, e2]
  show (if (0 : Nat) = 0 then (if qED 5 (numV (3 * kr)) = true then _ else if (0 : Nat) = 0 then twoF 5 (numV (3 * kr)) (numV 1) else _) else _) = _
  rw [if_pos rfl, if_neg (by show ¬ false = true; decide), if_pos rfl]
  show reckN 5 (3 * kr) 1 = _
  exact r2
theorem up_ok : upX.ok := ⟨by unfold bi2; omega, ⟨by unfold bi2; omega, (by show qC8 kN; decide), .int _, (by decide)⟩, .int _, (by decide)⟩
theorem up_of (l : List Cl) : ofF (⟨kN, 2, false⟩ :: l) upX = ⟨0, 2, false⟩ := by
  have hf : findC kN (⟨kN, 2, false⟩ :: l) = ⟨0, 2, false⟩ := by
    show (if kN = kN then _ else _) = _
    rw [if_pos rfl]
    rfl
  have h1 : ofF (⟨kN, 2, false⟩ :: l) (.col kN) = ⟨0, 2, false⟩ := hf
  have h2 : ofF (⟨kN, 2, false⟩ :: l) upM = ⟨0, 2, false⟩ := by
    show ofF _ (.bi 7 _ _) = _
    rw [ofF, h1]
    rfl
  show ofF _ (.bi 5 _ _) = _
  rw [ofF, h2]
  rfl
theorem filter_snocU {α : Type} (p : α → Bool) {l : List α} {k : Nat} {x : α} (h : l[k]? = some x) : ((l.take (k + 1)).filter p).length = ((l.take k).filter p).length + if p x = true then 1 else 0 := by
  rw [List.take_add_one, h, List.filter_append, List.length_append]
  congr 1
  show (List.filter p [x]).length = _
  cases hp : p x with
  | true => rw [List.filter_cons_of_pos hp, if_pos rfl]; rfl
  | false => rw [List.filter_cons_of_neg (by rw [hp]; decide), if_neg (by decide)]; rfl
theorem qFo {α : Type} (p : α → Bool) {l : List α} {k : Nat} {x : α} (h : l[k]? = some x) : (l.take (k + 1)).any p = ((l.take k).any p || p x) := by
  rw [List.take_add_one, h, List.any_append]
  congr 1
  show (p x || false) = p x
  exact Bool.or_false _
theorem map_snocU {α β : Type} (f : α → β) {l : List α} {k : Nat} {x : α} (h : l[k]? = some x) : (l.take (k + 1)).map f = (l.take k).map f ++ [f x] := by
  rw [List.take_add_one, h, List.map_append]
  rfl
set_option maxHeartbeats 16000000 in
theorem qCg (l q : List Raw) (cols : List Cl) (cs U xc : List D) (ka : List (List D)) (nn n2 i tn er ge : Nat) (dz : Int) (rs bs : List (List Vl)) (oa ob : Bool) (y : List Vl → Bool) (ev : List Vl → Nat)
    (g1 : PG Tryd.prog 9 [.d (qBh l)] [] [] (.tu [.d (.ag cs), .px 2000 0, .d (bD true)]) [] [(2000, .var 50 [.d (qBh q), .d (iD nn), .d (qAW cols)])])
    (hcl : cs.length = 19) (hUl : U.length = 19) (hxl : xc.length = 7) (hcol : cs[2]? = some (qAW cols))
    (p2 : PC Tryd.prog 10 [iD dz, iD ((2 : Nat) : Int)] (iD i))
    (x1 : PX Tryd.prog 19 [.px 1000 0, .d (iD 1), .d (iD 3)] [(1000, .var 50 [.d (qBh q), .d (iD nn), .d (qAW cols)])] [] (.ag xc) [(1000, .var 50 [.d (qBh q), .d (iD n2), .d (qAW cols)])] [])
    (kx : PC Tryd.prog 21 [iD 5, .ag upM.cs, .ag (Ex.lit (numV 1)).cs] (.ag [iD 5, iD 0, iD 0, qD 0, strD .empty, strD .empty, .sl 7 ka]))
    (ku : PC Tryd.prog 21 [iD 7, .ag [iD 2, iD 0, iD 0, qD 0, strD .empty, strD kN, .nl], .ag (Ex.lit (numV 3)).cs] (.ag upM.cs))
    (up : PC Tryd.prog 30 [.ag cs, iD i, .ag xc, .sl 8 [[strD kN, iD 5, iD 0, iD 0, qD 0, strD .empty, strD .empty, .sl 7 ka]]] (.tu [.ag U, iD tn, iD er]))
    (c1 : PC Tryd.prog 15 [iD i] (.ag [bD oa, bD ob]))
    (rA : PC Tryd.prog 14 [.ag cs, .ag [bD oa, bD ob]] (.tu [qD6 rs, iD 0]))
    (rB : er = 0 → PC Tryd.prog 14 [.ag U, .ag [bD oa, bD ob]] (.tu [qD6 bs, iD ge]))
    (hH : ∀ r ∈ rs, PC Tryd.prog 28 [.ag xc, qAW cols, qBx r] (.tu [bD (y r), iD (ev r)]))
    (tt : PC Tryd.prog 13 [] (bD true))
    (ck : er = 0 → PC Tryd.prog 16 [.ag U] (iD 0))
    (hA4 : rs.length ≤ 4) (hrk : ∀ r ∈ rs, ∃ kr lr, r = numV kr :: lr ∧ -3 ≤ kr ∧ kr < 8)
    (hfin : (fellB y ev rs = true ∧ er ≠ 0 ∧ tn = 0) ∨ (fellB y ev rs = false ∧ er = 0 ∧ ge = 0 ∧ tn = (rs.filter y).length ∧ bs.length = rs.length ∧ ∀ r ∈ bs, ∃ kr lr, r = numV kr :: lr ∧ kr ∈ rs.map (keyU y))) :
    PC Tryd.prog 6 [qBh l, iD dz] (bD true) := by
  have hcolA : (cs.map A.d)[2]? = some (.d (qAW cols)) := qF3 hcol
  have n3 := numberU_pc 3
  have n1 := numberU_pc 1
  refine qAs Tryd.func6 rfl (by kernel_rfl) mixed (by kernel_rfl) (qle (by kernel_rfl)) Tryd.results6 ?_
  repeat (first | ((first | (with_reducible apply rpGT) | (with_reducible apply drGT) | (with_reducible apply qCj) | (with_reducible apply qCh)); eq_refl; (first | exact qAT rfl | exact qAP rfl | exact qBk rfl | exact qBs rfl); (first | eq_refl | assumption | decide); (focus repeat' (first | exact trivial | exact id | apply And.intro | (intro h; (first | exact h | (simp only [Bool.and_eq_true] at h; (first | exact h.1 | exact h.1.1 | exact h.1.1.1 | exact h.2)) | (rw [h]; rfl) | (rw [zh, h]; rfl) | simp_all)))); (first | ((refine qEa [] [(2000, 35)] (ups := [(35, .var 50 [.d (qBh q), .d (iD nn), .d (qAW cols)])]) (v := (.tu [.d (.ag cs), .px 35 0, .d (bD true)])) rfl (g1) rfl ?_ rfl ?_ ?_ rfl rfl rfl rfl rfl ?_ ?_ rfl rfl rfl; (focus repeat' (first | exact trivial | eq_refl | apply And.intro)); (iterate 4 (focus repeat' (first | exact trivial | exact qAX rfl | apply And.intro)))); (first | exact qAB _ | exact qBQ _ _ | exact qBP _ _ _ | exact qBO _ _ _ _)) | ((refine qAC [(1000, 35)] [(1000, 35)] (ups := [(35, .var 50 [.d (qBh q), .d (iD n2), .d (qAW cols)])]) rfl (x1) rfl (kpX rfl) rfl (insX rfl) (insQ rfl) rfl rfl rfl rfl rfl (insX rfl) rfl rfl); (first | exact qAB _ | exact qBQ _ _ | exact qBP _ _ _ | exact qBO _ _ _ _)) | ((first | (exact qA3 (tyOk rfl) rfl rfl rfl hcl) | (exact qA3 (tyOk rfl) rfl rfl rfl hxl) | (exact qAb (tyOk rfl) rfl rfl rfl hcl hcl) | (exact qAb (tyOk rfl) rfl rfl rfl hUl hUl) | (exact qAb (tyOk rfl) rfl rfl rfl hxl hxl) | ((with_reducible apply qAg); eq_refl; eq_refl; (first | exact (p2) | exact (c1)); eq_refl) | ((with_reducible apply qAK); (iterate 3 eq_refl); exact (n3)) | ((with_reducible apply qAK); (iterate 3 eq_refl); exact (n1)) | ((with_reducible apply qAK); (iterate 3 eq_refl); exact (ku)) | ((with_reducible apply qAK); (iterate 3 eq_refl); exact (kx)) | ((with_reducible apply qEQ); (iterate 3 eq_refl); exact (up)) | ((with_reducible apply qAK); (iterate 3 eq_refl); exact (rA)) | ((with_reducible first | apply qAd | apply qAa); (conv => lhs; whnf)) | ((with_reducible first | apply qAl | apply qAt | apply qA7 | apply qAk | apply qAb) <;> first | ((with_reducible apply tyOk); eq_refl) | eq_refl | exact qle rfl) | ((with_reducible apply qEz); eq_refl; eq_refl) | ((with_reducible apply qAR); exact tyOk rfl; eq_refl; eq_refl; (focus repeat' (first | eq_refl | refine ⟨_, _, rfl, rfl, qle rfl, rfl, ?_⟩)); eq_refl) | ((with_reducible apply qA2); exact tyOk rfl; eq_refl; exact tyOk rfl; eq_refl; eq_refl; (focus repeat' (first | exact trivial | refine And.intro rfl (And.intro rfl ?_))); decide; decide; eq_refl)); (first | exact qAB _ | exact qBQ _ _ | exact qBP _ _ _ | exact qBO _ _ _ _)))) | (with_reducible first | apply qAj | apply qAi | apply qAh | apply qAf | apply qA4 | apply qAo) | ((with_reducible apply qBg); (first | kernel_rfl | eq_refl)) | ((with_reducible first | apply rp | apply dr); first | (exact qA3 (tyOk rfl) rfl rfl rfl hcl) | (exact qA3 (tyOk rfl) rfl rfl rfl hxl) | ((with_reducible apply qAg); eq_refl; eq_refl; (first | exact (p2) | exact (c1)); eq_refl) | ((with_reducible apply qAK); (iterate 3 eq_refl); exact (n3)) | ((with_reducible apply qAK); (iterate 3 eq_refl); exact (n1)) | ((with_reducible apply qAK); (iterate 3 eq_refl); exact (ku)) | ((with_reducible apply qAK); (iterate 3 eq_refl); exact (kx)) | ((with_reducible apply qAK); (iterate 3 eq_refl); exact (rA)) | ((with_reducible first | apply qAd | apply qAa); (conv => lhs; whnf)) | ((with_reducible first | apply qAl | apply qAt | apply qA7) <;> first | ((with_reducible apply tyOk); eq_refl) | eq_refl | exact qle rfl) | ((with_reducible apply qEz); eq_refl; eq_refl) | ((with_reducible apply qAR); exact tyOk rfl; eq_refl; eq_refl; (focus repeat' (first | eq_refl | refine ⟨_, _, rfl, rfl, qle rfl, rfl, ?_⟩)); eq_refl)) | ((with_reducible apply rp1); first | ((with_reducible apply qEQ); (iterate 3 eq_refl); exact (up)) | ((with_reducible apply qAk); exact tyOk rfl; eq_refl) | ((with_reducible apply qA2); exact tyOk rfl; eq_refl; exact tyOk rfl; eq_refl; eq_refl; (focus repeat' (first | exact trivial | refine And.intro rfl (And.intro rfl ?_))); decide; decide; eq_refl)) | ((with_reducible apply rpN); first | (exact qAb (tyOk rfl) rfl rfl rfl hcl hcl) | (exact qAb (tyOk rfl) rfl rfl rfl hUl hUl) | (exact qAb (tyOk rfl) rfl rfl rfl hxl hxl) | ((with_reducible apply qAb); exact tyOk rfl; (iterate 5 eq_refl))) | ((with_reducible apply rpL); (refine qEa [] [(2000, 35)] (ups := [(35, .var 50 [.d (qBh q), .d (iD nn), .d (qAW cols)])]) (v := (.tu [.d (.ag cs), .px 35 0, .d (bD true)])) rfl (g1) rfl ?_ rfl ?_ ?_ rfl rfl rfl rfl rfl ?_ ?_ rfl rfl rfl; (focus repeat' (first | exact trivial | eq_refl | apply And.intro)); (iterate 4 (focus repeat' (first | exact trivial | exact qAX rfl | apply And.intro)))); exact qAB _) | ((with_reducible apply rpL); (refine qAC [(1000, 35)] [(1000, 35)] (ups := [(35, .var 50 [.d (qBh q), .d (iD n2), .d (qAW cols)])]) rfl (x1) rfl (kpX rfl) rfl (insX rfl) (insQ rfl) rfl rfl rfl rfl rfl (insX rfl) rfl rfl); exact qAB _))
  refine qBf (fun m s => ∃ k, k ≤ rs.length ∧ m = rs.length - k ∧ s = ⟨[(5, .px 5 0), (7, .d (bD true)), (8, .d (iD i)), (9, .px 9 0), (11, .px 11 0), (12, .d (iD tn)), (13, .d (iD er)), (14, .d (qD6 rs)), (15, .d (iD 0)), (16, .ow 16 (((rs.take k).map (keyU y)).map fun n => [iD n]).length), (17, .d (iD ((rs.take k).filter y).length)), (18, .d (bD (fellB y ev (rs.take k)))), (66, .d (qD6 rs)), (67, .d (iD rs.length)), (68, .d (iD k))], [(5, .var 30 (cs.map .d)), (9, .var 58 (xc.map .d)), (11, .var 30 (U.map .d)), (16, .row 3 1 (((rs.take k).map (keyU y)).map fun n => [iD n]))]⟩) _ _ ?_ ⟨0, by omega, rfl, rfl⟩ ?_
  · refine Ent.trans (ent_nilrow 16 16 3 1 rfl rfl) ?_
    refine qAw [] (by repeat' (first | exact qAG | (refine qAx rfl (by exact SubA.refl _) ?_))) (by repeat' (first | exact trivial | eq_refl | exact kb_d rfl | apply And.intro)) rfl (insS rfl) (by repeat' (first | exact trivial | exact qA0 _ | exact qBJ rfl | exact qAX rfl | apply And.intro))
  · rintro m s ⟨k, hk, rfl, rfl⟩
    repeat (first | ((first | (with_reducible apply rpGT) | (with_reducible apply drGT) | (with_reducible apply qCj) | (with_reducible apply qCh)); eq_refl; (first | exact qAT rfl | exact qAP rfl | exact qBk rfl | exact qBs rfl); (first | eq_refl | assumption | decide); (focus repeat' (first | exact trivial | exact id | apply And.intro | (intro h; (first | exact h | (simp only [Bool.and_eq_true] at h; (first | exact h.1 | exact h.1.1 | exact h.1.1.1 | exact h.2)) | (rw [h]; rfl) | (rw [zh, h]; rfl) | simp_all)))); ((first | ((with_reducible apply qAN); eq_refl; eq_refl)); (first | exact qAB _ | exact qBQ _ _ | exact qBP _ _ _ | exact qBO _ _ _ _))) | (with_reducible first | apply qAj | apply qAi | apply qAh | apply qAf) | ((with_reducible apply rp); ((with_reducible apply qAN); eq_refl; eq_refl)))
    refine qAn rfl (fun hd => ?_) (fun hd => ?_)
    · have hlt : k < rs.length := by simpa using hd
      clear hd
      obtain ⟨r, hr⟩ : ∃ r, rs[k]? = some r := ⟨_, List.getElem?_eq_getElem hlt⟩
      have h1 := hH r (List.mem_of_getElem? hr)
      obtain ⟨kr, lr, rfl, q1, q2⟩ := hrk r (List.mem_of_getElem? hr)
      have hg : (rs.map rowC)[k]? = some [qBx (numV kr :: lr)] := qES hr
      have hgr : ((numV kr :: lr).map Vl.cs)[0]? = some [iD 2, iD kr, qD 0, strD .empty] := rfl
      have hfe := fellB_snoc y ev hr
      have hfil := filter_snocU y hr
      have hwn := map_snocU (keyU y) hr
      have hev : (ev (numV kr :: lr) != 0) = (((ev (numV kr :: lr) : Nat) : Int) != 0) := by
        rw [Bool.eq_iff_iff, bne_iff_ne, bne_iff_ne]
        omega
      rw [hev] at hfe
      have hku : keyU y (numV kr :: lr) = if y (numV kr :: lr) = true then 3 * kr + 1 else kr := rfl
      rw [hku] at hfe hwn
      have hF4 : ((rs.take k).filter y).length ≤ 4 := by
        have := List.length_filter_le y (rs.take k)
        rw [List.length_take] at this
        omega
      have hW4 : ((rs.take k).map (keyU y)).length ≤ 4 := by rw [List.length_map, List.length_take]; omega
      generalize fellB y ev (rs.take k) = fb at *
      generalize ((rs.take k).filter y).length = cm at *
      generalize (rs.take k).map (keyU y) = W at *
      obtain ⟨E, hE⟩ : ∃ E, W.map (fun n => [iD n]) = E := ⟨_, rfl⟩
      have hEl : E.length = W.length := by rw [← hE, List.length_map]
      have hget : ∀ j wj, W[j]? = some wj → E[j]? = some [iD wj] := fun j wj h => by rw [← hE, List.getElem?_map, h]; rfl
      rw [hE]
      repeat (first | ((first | (with_reducible apply rpGT) | (with_reducible apply drGT) | (with_reducible apply qCj) | (with_reducible apply qCh)); eq_refl; exact qAP rfl; (first | eq_refl | assumption | decide); (focus repeat' (first | exact trivial | exact id | apply And.intro)); ((first | (exact qA3 (tyOk rfl) rfl rfl rfl hxl) | (exact qAe (tyOk rfl) rfl rfl rfl hcolA) | ((with_reducible apply qAg); eq_refl; eq_refl; exact (h1); eq_refl) | ((with_reducible first | apply qAd | apply qAa); (conv => lhs; whnf)) | ((with_reducible first | apply qAJ | apply qAc | apply qAU | apply qAt) <;> first | ((with_reducible apply tyOk); eq_refl) | eq_refl | exact id | decide) | ((with_reducible apply qBp); exact tyOk rfl; eq_refl; eq_refl; assumption; eq_refl) | ((with_reducible apply qAH); exact tyOk rfl; eq_refl; exact tyOk rfl; (iterate 4 eq_refl); (first | (dsimp only; simp only [List.length_map, List.length_append, List.length_cons, List.length_nil] at *; omega) | (simp only [List.length_map, List.length_append, List.length_cons, List.length_nil] at *; omega)))); (first | exact qAB _ | exact qBQ _ _ | exact qBP _ _ _ | exact qBO _ _ _ _))) | (with_reducible first | apply qAj | apply qAi | apply qAh | apply qAf | apply qAo | apply qAm) | ((first | (with_reducible apply rp) | ((with_reducible apply rpG); eq_refl; exact qAP rfl; (focus repeat' (first | exact trivial | exact id | apply And.intro)); intro zg; have zh := zg; (try simp only [zs1, zs2, zs3, zs4] at zg))); first | (exact qA3 (tyOk rfl) rfl rfl rfl hxl) | (exact qAe (tyOk rfl) rfl rfl rfl hcolA) | ((with_reducible apply qAg); eq_refl; eq_refl; exact (h1); eq_refl) | ((with_reducible first | apply qAd | apply qAa); (conv => lhs; whnf)) | ((with_reducible first | apply qAJ | apply qAc | apply qAU | apply qAt) <;> first | ((with_reducible apply tyOk); eq_refl) | eq_refl | exact id | decide) | ((with_reducible apply qBp); exact tyOk rfl; eq_refl; eq_refl; assumption; eq_refl) | ((with_reducible apply qAH); exact tyOk rfl; eq_refl; exact tyOk rfl; (iterate 4 eq_refl); (first | (dsimp only; simp only [List.length_map, List.length_append, List.length_cons, List.length_nil] at *; omega) | (simp only [List.length_map, List.length_append, List.length_cons, List.length_nil] at *; omega)))))
      generalize (fb || (((ev (numV kr :: lr) : Nat) : Int) != 0)) = f0 at *
      cases hy : y (numV kr :: lr) with
      | true =>
        rw [hy, if_pos rfl] at hfe hwn
        rw [hy, if_pos rfl] at hfil
        refine qAn rfl (fun _ => ?_) (fun hc => (by cases hc))
        repeat (first | ((first | (with_reducible apply rpGT) | (with_reducible apply drGT) | (with_reducible apply qCj) | (with_reducible apply qCh)); eq_refl; (first | exact qAT rfl | exact qAP rfl | exact qBk rfl | exact qBs rfl); (first | eq_refl | assumption | decide); (focus repeat' (first | exact trivial | exact id | apply And.intro | (intro h; (first | exact h | (simp only [Bool.and_eq_true] at h; (first | exact h.1 | exact h.1.1 | exact h.1.1.1 | exact h.2)) | (rw [h]; rfl) | (rw [zh, h]; rfl) | simp_all)))); ((first | (exact qFv (z := 3 * kr) rfl rfl rfl (by omega) (by omega)) | (exact qBE (z := 3 * kr + 1) rfl rfl rfl (by omega) (by omega)) | ((with_reducible first | apply qAd | apply qAa); (conv => lhs; whnf)) | ((with_reducible apply qAI); eq_refl; eq_refl; omega; omega) | ((with_reducible apply qB7); exact tyOk rfl; eq_refl; eq_refl)); (first | exact qAB _ | exact qBQ _ _ | exact qBP _ _ _ | exact qBO _ _ _ _))) | (with_reducible first | apply qAj | apply qAi | apply qAh | apply qAf | apply qAo) | ((with_reducible apply rp); first | (exact qFv (z := 3 * kr) rfl rfl rfl (by omega) (by omega)) | (exact qBE (z := 3 * kr + 1) rfl rfl rfl (by omega) (by omega)) | ((with_reducible apply qAd); (conv => lhs; whnf)) | ((with_reducible apply qAa); (conv => lhs; whnf)) | ((with_reducible apply qAI); eq_refl; eq_refl; omega; omega) | ((with_reducible apply qB7); exact tyOk rfl; eq_refl; eq_refl)))
        refine qBf (fun m s => ∃ j, j ≤ E.length ∧ m = E.length - j ∧ s = ⟨[(5, .px 5 0), (7, .d (bD true)), (8, .d (iD i)), (9, .px 9 0), (11, .px 11 0), (12, .d (iD tn)), (13, .d (iD er)), (14, .d (qD6 rs)), (15, .d (iD 0)), (16, .ow 16 E.length), (17, .d (iD (cm + 1 : Nat))), (18, .d (bD (f0 || (W.take j).any fun o => o == (3 * kr + 1)))), (23, .d (iD (3 * kr + 1))), (95, .ow 16 E.length), (96, .d (iD E.length)), (97, .d (iD j)), (66, .d (qD6 rs)), (67, .d (iD rs.length)), (68, .d (iD k))], [(5, .var 30 (cs.map .d)), (9, .var 58 (xc.map .d)), (11, .var 30 (U.map .d)), (16, .row 3 1 (E))]⟩) _ _ ?_ ⟨0, by omega, rfl, rfl⟩ ?_
        · rw [List.take_zero, List.any_nil, Bool.or_false]
          refine qAw [] (by repeat' (first | exact qAG | (refine qAx rfl (by exact SubA.refl _) ?_))) (by repeat' (first | exact trivial | eq_refl | exact kb_d rfl | apply And.intro)) rfl (insS rfl) (by repeat' (first | exact trivial | exact qA0 _ | exact qBJ rfl | exact qAX rfl | apply And.intro))
        · rintro m s ⟨j, hj, rfl, rfl⟩
          repeat (first | ((first | (with_reducible apply rpGT) | (with_reducible apply drGT) | (with_reducible apply qCj) | (with_reducible apply qCh)); eq_refl; (first | exact qAT rfl | exact qAP rfl | exact qBk rfl | exact qBs rfl); (first | eq_refl | assumption | decide); (focus repeat' (first | exact trivial | exact id | apply And.intro | (intro h; (first | exact h | (simp only [Bool.and_eq_true] at h; (first | exact h.1 | exact h.1.1 | exact h.1.1.1 | exact h.2)) | (rw [h]; rfl) | (rw [zh, h]; rfl) | simp_all)))); ((first | ((with_reducible apply qAN); eq_refl; eq_refl)); (first | exact qAB _ | exact qBQ _ _ | exact qBP _ _ _ | exact qBO _ _ _ _))) | (with_reducible first | apply qAj | apply qAi | apply qAh | apply qAf) | ((with_reducible apply rp); ((with_reducible apply qAN); eq_refl; eq_refl)))
          refine qAn rfl (fun hd => ?_) (fun hd => ?_)
          · have hjt : j < E.length := by simpa using hd
            clear hd
            obtain ⟨wj, hw⟩ : ∃ w, W[j]? = some w := ⟨_, List.getElem?_eq_getElem (by omega)⟩
            have hgw := hget j wj hw
            have hany := qFo (fun o => o == (3 * kr + 1)) hw
            generalize (W.take j).any (fun o => o == (3 * kr + 1)) = aj at *
            repeat (first | ((first | (with_reducible apply rpGT) | (with_reducible apply drGT) | (with_reducible apply qCj) | (with_reducible apply qCh)); eq_refl; exact qAP rfl; (first | eq_refl | assumption | decide); (focus repeat' (first | exact trivial | exact id | apply And.intro)); ((first | ((with_reducible first | apply qAd | apply qAa); (conv => lhs; whnf)) | ((with_reducible first | apply qAJ | apply qAr) <;> first | eq_refl | exact id) | ((with_reducible apply qBR); exact tyOk rfl; (iterate 3 eq_refl); assumption; eq_refl) | ((with_reducible apply qBy); exact tyOk rfl; eq_refl; exact tyOk rfl; (iterate 3 eq_refl); omega) | ((with_reducible apply qAI); eq_refl; eq_refl; omega; omega)); (first | exact qAB _ | exact qBQ _ _ | exact qBP _ _ _ | exact qBO _ _ _ _))) | (with_reducible first | apply qAj | apply qAi | apply qAh | apply qAf | apply qAo | apply qAF | apply qAm) | ((first | (with_reducible apply rp) | ((with_reducible apply rpG); eq_refl; exact qAP rfl; (focus repeat' (first | exact trivial | exact id | apply And.intro)); intro zg; have zh := zg; (try simp only [zs1, zs2, zs3, zs4] at zg))); first | ((with_reducible first | apply qAd | apply qAa); (conv => lhs; whnf)) | ((with_reducible first | apply qAJ | apply qAr) <;> first | eq_refl | exact id) | ((with_reducible apply qBR); exact tyOk rfl; (iterate 3 eq_refl); assumption; eq_refl) | ((with_reducible apply qBy); exact tyOk rfl; eq_refl; exact tyOk rfl; (iterate 3 eq_refl); omega) | ((with_reducible apply qAI); eq_refl; eq_refl; omega; omega)))
            refine ⟨_, _, ?_, ?_, j + 1, by omega, rfl, rfl⟩
            · omega
            · rw [hany, ← Bool.or_assoc]
              refine qAw [] (by repeat' (first | exact qAG | (refine qAx rfl (by exact SubA.refl _) ?_))) (by repeat' (first | exact trivial | eq_refl | exact kb_d rfl | apply And.intro)) rfl (insS rfl) (by repeat' (first | exact trivial | exact qA0 _ | exact qBJ rfl | exact qAX rfl | apply And.intro))
          · have hje : j = E.length := by simp at hd; omega
            clear hd
            subst hje
            rw [hEl, List.take_length]
            rw [← hEl]
            generalize W.any (fun o => o == (3 * kr + 1)) = aw at *
            repeat (first | ((first | (with_reducible apply rpGT) | (with_reducible apply drGT) | (with_reducible apply qCj) | (with_reducible apply qCh)); eq_refl; (first | exact qAT rfl | exact qAP rfl | exact qBk rfl | exact qBs rfl); (first | eq_refl | assumption | decide); (focus repeat' (first | exact trivial | exact id | apply And.intro | (intro h; (first | exact h | (simp only [Bool.and_eq_true] at h; (first | exact h.1 | exact h.1.1 | exact h.1.1.1 | exact h.2)) | (rw [h]; rfl) | (rw [zh, h]; rfl) | simp_all)))); ((first | ((with_reducible first | apply qAd | apply qAa); (conv => lhs; whnf)) | ((with_reducible apply qAI); eq_refl; eq_refl; omega; omega) | ((with_reducible apply qA2); exact tyOk rfl; eq_refl; exact tyOk rfl; eq_refl; eq_refl; (focus repeat' (first | exact trivial | refine And.intro rfl (And.intro rfl ?_))); decide; decide; eq_refl) | ((with_reducible apply qBm); exact tyOk rfl; eq_refl; exact tyOk rfl; (iterate 3 eq_refl); decide; (first | (dsimp only; simp only [List.length_map, List.length_append, List.length_cons, List.length_nil] at *; omega) | (simp only [List.length_map, List.length_append, List.length_cons, List.length_nil] at *; omega)); (first | (dsimp only; simp only [List.length_map, List.length_append, List.length_cons, List.length_nil] at *; omega) | (simp only [List.length_map, List.length_append, List.length_cons, List.length_nil] at *; omega)); eq_refl)); (first | exact qAB _ | exact qBQ _ _ | exact qBP _ _ _ | exact qBO _ _ _ _))) | (with_reducible first | apply qAi | apply qAh | apply qAf | apply qA5 | apply qA9 | apply qA8 | apply qAF) | ((with_reducible apply rp); first | ((with_reducible apply qAd); (conv => lhs; whnf)) | ((with_reducible apply qAa); (conv => lhs; whnf)) | ((with_reducible apply qAI); eq_refl; eq_refl; omega; omega)) | ((with_reducible apply rp1); ((with_reducible apply qA2); exact tyOk rfl; eq_refl; exact tyOk rfl; eq_refl; eq_refl; (focus repeat' (first | exact trivial | refine And.intro rfl (And.intro rfl ?_))); decide; decide; eq_refl)) | ((with_reducible apply rp2); ((with_reducible apply qBm); exact tyOk rfl; eq_refl; exact tyOk rfl; (iterate 3 eq_refl); decide; (first | (dsimp only; simp only [List.length_map, List.length_append, List.length_cons, List.length_nil] at *; omega) | (simp only [List.length_map, List.length_append, List.length_cons, List.length_nil] at *; omega)); (first | (dsimp only; simp only [List.length_map, List.length_append, List.length_cons, List.length_nil] at *; omega) | (simp only [List.length_map, List.length_append, List.length_cons, List.length_nil] at *; omega)); eq_refl)))
            refine ⟨_, _, ?_, ?_, k + 1, by omega, rfl, rfl⟩
            · omega
            · rw [hfe, hfil, hwn, List.map_append, hE]
              refine qAw [(16, 111)] (by repeat' (first | exact qAG | (refine qAx rfl (by (first | exact SubA.refl _ | exact qDs (by (simp; done)))) ?_))) (by repeat' (first | exact trivial | eq_refl | exact kb_d rfl | apply And.intro)) rfl (insS rfl) (by repeat' (first | exact trivial | exact qA0 _ | exact qBJ rfl | exact qAX rfl | apply And.intro))
      | false =>
        rw [hy, if_neg (by decide)] at hfe hwn
        rw [hy, if_neg (by decide)] at hfil
        refine qAn rfl (fun hc => (by cases hc)) (fun _ => ?_)
        repeat (first | ((first | (with_reducible apply rpGT) | (with_reducible apply drGT) | (with_reducible apply qCj) | (with_reducible apply qCh)); eq_refl; (first | exact qAT rfl | exact qAP rfl | exact qBk rfl | exact qBs rfl); (first | eq_refl | assumption | decide); (focus repeat' (first | exact trivial | exact id | apply And.intro | (intro h; (first | exact h | (simp only [Bool.and_eq_true] at h; (first | exact h.1 | exact h.1.1 | exact h.1.1.1 | exact h.2)) | (rw [h]; rfl) | (rw [zh, h]; rfl) | simp_all)))); ((first | ((with_reducible apply qAd); (conv => lhs; whnf)) | ((with_reducible apply qB7); exact tyOk rfl; eq_refl; eq_refl)); (first | exact qAB _ | exact qBQ _ _ | exact qBP _ _ _ | exact qBO _ _ _ _))) | (with_reducible first | apply qAj | apply qAi | apply qAh | apply qAf | apply qAo | apply qAm) | ((with_reducible apply rp); first | ((with_reducible apply qAd); (conv => lhs; whnf)) | ((with_reducible apply qB7); exact tyOk rfl; eq_refl; eq_refl)))
        refine qBf (fun m s => ∃ j, j ≤ E.length ∧ m = E.length - j ∧ s = ⟨[(5, .px 5 0), (7, .d (bD true)), (8, .d (iD i)), (9, .px 9 0), (11, .px 11 0), (12, .d (iD tn)), (13, .d (iD er)), (14, .d (qD6 rs)), (15, .d (iD 0)), (16, .ow 16 E.length), (17, .d (iD cm)), (18, .d (bD (f0 || (W.take j).any fun o => o == kr))), (23, .d (iD kr)), (95, .ow 16 E.length), (96, .d (iD E.length)), (97, .d (iD j)), (66, .d (qD6 rs)), (67, .d (iD rs.length)), (68, .d (iD k))], [(5, .var 30 (cs.map .d)), (9, .var 58 (xc.map .d)), (11, .var 30 (U.map .d)), (16, .row 3 1 (E))]⟩) _ _ ?_ ⟨0, by omega, rfl, rfl⟩ ?_
        · rw [List.take_zero, List.any_nil, Bool.or_false]
          refine qAw [] (by repeat' (first | exact qAG | (refine qAx rfl (by exact SubA.refl _) ?_))) (by repeat' (first | exact trivial | eq_refl | exact kb_d rfl | apply And.intro)) rfl (insS rfl) (by repeat' (first | exact trivial | exact qA0 _ | exact qBJ rfl | exact qAX rfl | apply And.intro))
        · rintro m s ⟨j, hj, rfl, rfl⟩
          repeat (first | ((first | (with_reducible apply rpGT) | (with_reducible apply drGT) | (with_reducible apply qCj) | (with_reducible apply qCh)); eq_refl; (first | exact qAT rfl | exact qAP rfl | exact qBk rfl | exact qBs rfl); (first | eq_refl | assumption | decide); (focus repeat' (first | exact trivial | exact id | apply And.intro | (intro h; (first | exact h | (simp only [Bool.and_eq_true] at h; (first | exact h.1 | exact h.1.1 | exact h.1.1.1 | exact h.2)) | (rw [h]; rfl) | (rw [zh, h]; rfl) | simp_all)))); ((first | ((with_reducible apply qAN); eq_refl; eq_refl)); (first | exact qAB _ | exact qBQ _ _ | exact qBP _ _ _ | exact qBO _ _ _ _))) | (with_reducible first | apply qAj | apply qAi | apply qAh | apply qAf) | ((with_reducible apply rp); ((with_reducible apply qAN); eq_refl; eq_refl)))
          refine qAn rfl (fun hd => ?_) (fun hd => ?_)
          · have hjt : j < E.length := by simpa using hd
            clear hd
            obtain ⟨wj, hw⟩ : ∃ w, W[j]? = some w := ⟨_, List.getElem?_eq_getElem (by omega)⟩
            have hgw := hget j wj hw
            have hany := qFo (fun o => o == kr) hw
            generalize (W.take j).any (fun o => o == kr) = aj at *
            repeat (first | ((first | (with_reducible apply rpGT) | (with_reducible apply drGT) | (with_reducible apply qCj) | (with_reducible apply qCh)); eq_refl; exact qAP rfl; (first | eq_refl | assumption | decide); (focus repeat' (first | exact trivial | exact id | apply And.intro)); ((first | ((with_reducible first | apply qAd | apply qAa); (conv => lhs; whnf)) | ((with_reducible first | apply qAJ | apply qAr) <;> first | eq_refl | exact id) | ((with_reducible apply qBR); exact tyOk rfl; (iterate 3 eq_refl); assumption; eq_refl) | ((with_reducible apply qBy); exact tyOk rfl; eq_refl; exact tyOk rfl; (iterate 3 eq_refl); omega) | ((with_reducible apply qAI); eq_refl; eq_refl; omega; omega)); (first | exact qAB _ | exact qBQ _ _ | exact qBP _ _ _ | exact qBO _ _ _ _))) | (with_reducible first | apply qAj | apply qAi | apply qAh | apply qAf | apply qAo | apply qAF | apply qAm) | ((first | (with_reducible apply rp) | ((with_reducible apply rpG); eq_refl; exact qAP rfl; (focus repeat' (first | exact trivial | exact id | apply And.intro)); intro zg; have zh := zg; (try simp only [zs1, zs2, zs3, zs4] at zg))); first | ((with_reducible first | apply qAd | apply qAa); (conv => lhs; whnf)) | ((with_reducible first | apply qAJ | apply qAr) <;> first | eq_refl | exact id) | ((with_reducible apply qBR); exact tyOk rfl; (iterate 3 eq_refl); assumption; eq_refl) | ((with_reducible apply qBy); exact tyOk rfl; eq_refl; exact tyOk rfl; (iterate 3 eq_refl); omega) | ((with_reducible apply qAI); eq_refl; eq_refl; omega; omega)))
            refine ⟨_, _, ?_, ?_, j + 1, by omega, rfl, rfl⟩
            · omega
            · rw [hany, ← Bool.or_assoc]
              refine qAw [] (by repeat' (first | exact qAG | (refine qAx rfl (by exact SubA.refl _) ?_))) (by repeat' (first | exact trivial | eq_refl | exact kb_d rfl | apply And.intro)) rfl (insS rfl) (by repeat' (first | exact trivial | exact qA0 _ | exact qBJ rfl | exact qAX rfl | apply And.intro))
          · have hje : j = E.length := by simp at hd; omega
            clear hd
            subst hje
            rw [hEl, List.take_length]
            rw [← hEl]
            generalize W.any (fun o => o == kr) = aw at *
            repeat (first | ((first | (with_reducible apply rpGT) | (with_reducible apply drGT) | (with_reducible apply qCj) | (with_reducible apply qCh)); eq_refl; (first | exact qAT rfl | exact qAP rfl | exact qBk rfl | exact qBs rfl); (first | eq_refl | assumption | decide); (focus repeat' (first | exact trivial | exact id | apply And.intro | (intro h; (first | exact h | (simp only [Bool.and_eq_true] at h; (first | exact h.1 | exact h.1.1 | exact h.1.1.1 | exact h.2)) | (rw [h]; rfl) | (rw [zh, h]; rfl) | simp_all)))); ((first | ((with_reducible first | apply qAd | apply qAa); (conv => lhs; whnf)) | ((with_reducible apply qAI); eq_refl; eq_refl; omega; omega) | ((with_reducible apply qA2); exact tyOk rfl; eq_refl; exact tyOk rfl; eq_refl; eq_refl; (focus repeat' (first | exact trivial | refine And.intro rfl (And.intro rfl ?_))); decide; decide; eq_refl) | ((with_reducible apply qBm); exact tyOk rfl; eq_refl; exact tyOk rfl; (iterate 3 eq_refl); decide; (first | (dsimp only; simp only [List.length_map, List.length_append, List.length_cons, List.length_nil] at *; omega) | (simp only [List.length_map, List.length_append, List.length_cons, List.length_nil] at *; omega)); (first | (dsimp only; simp only [List.length_map, List.length_append, List.length_cons, List.length_nil] at *; omega) | (simp only [List.length_map, List.length_append, List.length_cons, List.length_nil] at *; omega)); eq_refl)); (first | exact qAB _ | exact qBQ _ _ | exact qBP _ _ _ | exact qBO _ _ _ _))) | (with_reducible first | apply qAi | apply qAh | apply qAf | apply qA5 | apply qA9 | apply qA8 | apply qAF) | ((with_reducible apply rp); first | ((with_reducible apply qAd); (conv => lhs; whnf)) | ((with_reducible apply qAa); (conv => lhs; whnf)) | ((with_reducible apply qAI); eq_refl; eq_refl; omega; omega)) | ((with_reducible apply rp1); ((with_reducible apply qA2); exact tyOk rfl; eq_refl; exact tyOk rfl; eq_refl; eq_refl; (focus repeat' (first | exact trivial | refine And.intro rfl (And.intro rfl ?_))); decide; decide; eq_refl)) | ((with_reducible apply rp2); ((with_reducible apply qBm); exact tyOk rfl; eq_refl; exact tyOk rfl; (iterate 3 eq_refl); decide; (first | (dsimp only; simp only [List.length_map, List.length_append, List.length_cons, List.length_nil] at *; omega) | (simp only [List.length_map, List.length_append, List.length_cons, List.length_nil] at *; omega)); (first | (dsimp only; simp only [List.length_map, List.length_append, List.length_cons, List.length_nil] at *; omega) | (simp only [List.length_map, List.length_append, List.length_cons, List.length_nil] at *; omega)); eq_refl)))
            refine ⟨_, _, ?_, ?_, k + 1, by omega, rfl, rfl⟩
            · omega
            · rw [hfe, hfil, hwn, List.map_append, hE]
              refine qAw [(16, 111)] (by repeat' (first | exact qAG | (refine qAx rfl (by (first | exact SubA.refl _ | exact qDs (by (simp; done)))) ?_))) (by repeat' (first | exact trivial | eq_refl | exact kb_d rfl | apply And.intro)) rfl (insS rfl) (by repeat' (first | exact trivial | exact qA0 _ | exact qBJ rfl | exact qAX rfl | apply And.intro))
    · have hke : k = rs.length := by simp at hd; omega
      clear hd
      subst hke
      rw [List.take_length] at *
      rcases hfin with ⟨f1, f2, f3⟩ | ⟨f1, f2, f3, f4, f5, f6⟩
      · rw [f1]
        subst f3
        have e1 : (((er : Nat) : Int) != 0) = true := by simpa using f2
        repeat (first | ((first | (with_reducible apply rpGT) | (with_reducible apply drGT) | (with_reducible apply qCj) | (with_reducible apply qCh)); eq_refl; exact qAT rfl; (first | eq_refl | assumption | decide); (focus repeat' (first | exact trivial | apply And.intro)); ((first | (exact qEm e1 rfl rfl) | ((with_reducible apply qAg); eq_refl; eq_refl; exact (tt); eq_refl) | ((with_reducible first | apply qAd | apply qAa); (conv => lhs; whnf)) | ((with_reducible first | apply qAM | apply qAr) <;> first | eq_refl | exact trivial)); (first | exact qAB _ | exact qBQ _ _ | exact qBP _ _ _ | exact qBO _ _ _ _))) | (with_reducible first | apply qAj | apply qAi | apply qAh | apply qAf | apply qA5 | apply qA9 | apply qA8 | apply qAu | apply qAS | apply qAz) | ((with_reducible apply rp); first | (exact qEm e1 rfl rfl) | ((with_reducible apply qAg); eq_refl; eq_refl; exact (tt); eq_refl) | ((with_reducible apply qAd); (conv => lhs; whnf)) | ((with_reducible apply qAa); (conv => lhs; whnf)) | ((with_reducible apply qAM); (iterate 3 eq_refl); exact trivial) | ((with_reducible apply qAr); eq_refl; eq_refl)) | ((with_reducible apply qBq); eq_refl; eq_refl))
        (with_reducible apply qAA); (focus (repeat' (first | (with_reducible apply qAv) | (with_reducible apply qAq) | ((with_reducible apply qAD); eq_refl)))); eq_refl; refine SubD.of_eq ?_
        rfl
      · rw [f1]
        subst f2
        subst f3
        have ck := ck rfl
        have rB := rB rfl
        have hlb : bs.length = rs.length := f5
        obtain ⟨W, hW⟩ : ∃ W, rs.map (keyU y) = W := ⟨_, rfl⟩
        rw [hW] at f6 ⊢
        have hW4 : W.length ≤ 4 := by rw [← hW, List.length_map]; omega
        obtain ⟨E, hE⟩ : ∃ E, W.map (fun n => [iD n]) = E := ⟨_, rfl⟩
        have hEl : E.length = W.length := by rw [← hE, List.length_map]
        have hget : ∀ j wj, W[j]? = some wj → E[j]? = some [iD wj] := fun j wj h => by rw [← hE, List.getElem?_map, h]; rfl
        rw [hE, ← f4]
        clear hE hW f4 f5 hH hrk
        repeat (first | ((first | (with_reducible apply rpGT) | (with_reducible apply drGT) | (with_reducible apply qCj) | (with_reducible apply qCh)); eq_refl; (first | exact qAT rfl | exact qAP rfl | exact qBk rfl | exact qBs rfl); (first | eq_refl | assumption | decide); (focus repeat' (first | exact trivial | exact id | apply And.intro | (intro h; (first | exact h | (simp only [Bool.and_eq_true] at h; (first | exact h.1 | exact h.1.1 | exact h.1.1.1 | exact h.2)) | (rw [h]; rfl) | (rw [zh, h]; rfl) | simp_all)))); ((first | ((with_reducible apply qAg); eq_refl; eq_refl; exact (c1); eq_refl) | ((with_reducible apply qAK); (iterate 3 eq_refl); exact (rB)) | (exact qA3 (tyOk rfl) rfl rfl rfl hUl) | ((with_reducible first | apply qAd | apply qAa); (conv => lhs; whnf)) | ((with_reducible first | apply qAt | apply qA7) <;> first | ((with_reducible apply tyOk); eq_refl) | eq_refl)); (first | exact qAB _ | exact qBQ _ _ | exact qBP _ _ _ | exact qBO _ _ _ _))) | (with_reducible first | apply qAj | apply qAi | apply qAh | apply qAf | apply qA4 | apply qAo | apply qA5 | apply qA9 | apply qA8 | apply qAm) | ((with_reducible apply qBg); (first | kernel_rfl | eq_refl)) | ((with_reducible first | apply rp | apply dr); first | ((with_reducible apply qAg); eq_refl; eq_refl; exact (c1); eq_refl) | ((with_reducible apply qAK); (iterate 3 eq_refl); exact (rB)) | (exact qA3 (tyOk rfl) rfl rfl rfl hUl) | ((with_reducible first | apply qAd | apply qAa); (conv => lhs; whnf)) | ((with_reducible first | apply qAt | apply qA7) <;> first | ((with_reducible apply tyOk); eq_refl) | eq_refl)) | ((with_reducible apply qA6); eq_refl; eq_refl))
        refine qBf (fun m s => ∃ b, b ≤ bs.length ∧ m = bs.length - b ∧ s = ⟨[(7, .d (bD true)), (11, .px 11 0), (12, .d (iD tn)), (13, .d (iD 0)), (14, .d (qD6 rs)), (15, .d (iD 0)), (17, .d (iD tn)), (16, .ow 16 E.length), (26, .d (qD6 bs)), (27, .d (iD 0)), (133, .d (qD6 bs)), (134, .d (iD bs.length)), (135, .d (iD b))], [(11, .var 30 (U.map .d)), (16, .row 3 1 E)]⟩) _ _ ?_ ⟨0, by omega, rfl, rfl⟩ ?_
        · refine qAw [] (by repeat' (first | exact qAG | (refine qAx rfl (by exact SubA.refl _) ?_))) (by repeat' (first | exact trivial | eq_refl | exact kb_d rfl | apply And.intro)) rfl (insS rfl) (by repeat' (first | exact trivial | exact qA0 _ | exact qBJ rfl | exact qAX rfl | apply And.intro))
        · rintro m s ⟨b, hb, rfl, rfl⟩
          repeat (first | ((first | (with_reducible apply rpGT) | (with_reducible apply drGT) | (with_reducible apply qCj) | (with_reducible apply qCh)); eq_refl; (first | exact qAT rfl | exact qAP rfl | exact qBk rfl | exact qBs rfl); (first | eq_refl | assumption | decide); (focus repeat' (first | exact trivial | exact id | apply And.intro | (intro h; (first | exact h | (simp only [Bool.and_eq_true] at h; (first | exact h.1 | exact h.1.1 | exact h.1.1.1 | exact h.2)) | (rw [h]; rfl) | (rw [zh, h]; rfl) | simp_all)))); ((first | ((with_reducible apply qAN); eq_refl; eq_refl)); (first | exact qAB _ | exact qBQ _ _ | exact qBP _ _ _ | exact qBO _ _ _ _))) | (with_reducible first | apply qAj | apply qAi | apply qAh | apply qAf) | ((with_reducible apply rp); ((with_reducible apply qAN); eq_refl; eq_refl)))
          refine qAn rfl (fun hd => ?_) (fun hd => ?_)
          · have hbt : b < bs.length := by simpa using hd
            clear hd
            obtain ⟨r, hr⟩ : ∃ r, bs[b]? = some r := ⟨_, List.getElem?_eq_getElem hbt⟩
            obtain ⟨kr, lr, rfl, hin⟩ := f6 r (List.mem_of_getElem? hr)
            have hg : (bs.map rowC)[b]? = some [qBx (numV kr :: lr)] := qES hr
            have hgr : ((numV kr :: lr).map Vl.cs)[0]? = some [iD 2, iD kr, qD 0, strD .empty] := rfl
            have hall : (W.any fun o => o == kr) = true := List.any_eq_true.2 ⟨kr, hin, beq_self_eq_true kr⟩
            repeat (first | ((first | (with_reducible apply rpGT) | (with_reducible apply drGT) | (with_reducible apply qCj) | (with_reducible apply qCh)); eq_refl; (first | exact qAT rfl | exact qAP rfl | exact qBk rfl | exact qBs rfl); (first | eq_refl | assumption | decide); (focus repeat' (first | exact trivial | exact id | apply And.intro | (intro h; (first | exact h | (simp only [Bool.and_eq_true] at h; (first | exact h.1 | exact h.1.1 | exact h.1.1.1 | exact h.2)) | (rw [h]; rfl) | (rw [zh, h]; rfl) | simp_all)))); ((first | ((with_reducible first | apply qAd | apply qAa); (conv => lhs; whnf)) | ((with_reducible apply qBp); exact tyOk rfl; eq_refl; eq_refl; assumption; eq_refl) | ((with_reducible apply qAH); exact tyOk rfl; eq_refl; exact tyOk rfl; (iterate 4 eq_refl); (simp only [List.length_map, List.length_append, List.length_cons, List.length_nil] at *; omega)) | ((with_reducible apply qB7); exact tyOk rfl; eq_refl; eq_refl)); (first | exact qAB _ | exact qBQ _ _ | exact qBP _ _ _ | exact qBO _ _ _ _))) | (with_reducible first | apply qAj | apply qAi | apply qAh | apply qAf | apply qAo | apply qAm) | ((with_reducible apply rp); first | ((with_reducible apply qAd); (conv => lhs; whnf)) | ((with_reducible apply qAa); (conv => lhs; whnf)) | ((with_reducible apply qBp); exact tyOk rfl; eq_refl; eq_refl; assumption; eq_refl) | ((with_reducible apply qAH); exact tyOk rfl; eq_refl; exact tyOk rfl; (iterate 4 eq_refl); (simp only [List.length_map, List.length_append, List.length_cons, List.length_nil] at *; omega)) | ((with_reducible apply qB7); exact tyOk rfl; eq_refl; eq_refl)))
            refine qBf (fun m s => ∃ j, j ≤ E.length ∧ m = E.length - j ∧ s = ⟨[(7, .d (bD true)), (11, .px 11 0), (12, .d (iD tn)), (13, .d (iD 0)), (14, .d (qD6 rs)), (15, .d (iD 0)), (17, .d (iD tn)), (16, .ow 16 E.length), (29, .d (qBx (numV kr :: lr))), (30, .d (bD ((W.take j).any fun o => o == kr))), (139, .ow 16 E.length), (140, .d (iD E.length)), (141, .d (iD j)), (26, .d (qD6 bs)), (27, .d (iD 0)), (133, .d (qD6 bs)), (134, .d (iD bs.length)), (135, .d (iD b))], [(11, .var 30 (U.map .d)), (16, .row 3 1 E)]⟩) _ _ ?_ ⟨0, by omega, rfl, rfl⟩ ?_
            · refine qAw [] (by repeat' (first | exact qAG | (refine qAx rfl (by exact SubA.refl _) ?_))) (by repeat' (first | exact trivial | eq_refl | exact kb_d rfl | apply And.intro)) rfl (insS rfl) (by repeat' (first | exact trivial | exact qA0 _ | exact qBJ rfl | exact qAX rfl | apply And.intro))
            · rintro m s ⟨j, hj, rfl, rfl⟩
              repeat (first | ((first | (with_reducible apply rpGT) | (with_reducible apply drGT) | (with_reducible apply qCj) | (with_reducible apply qCh)); eq_refl; (first | exact qAT rfl | exact qAP rfl | exact qBk rfl | exact qBs rfl); (first | eq_refl | assumption | decide); (focus repeat' (first | exact trivial | exact id | apply And.intro | (intro h; (first | exact h | (simp only [Bool.and_eq_true] at h; (first | exact h.1 | exact h.1.1 | exact h.1.1.1 | exact h.2)) | (rw [h]; rfl) | (rw [zh, h]; rfl) | simp_all)))); ((first | ((with_reducible apply qAN); eq_refl; eq_refl)); (first | exact qAB _ | exact qBQ _ _ | exact qBP _ _ _ | exact qBO _ _ _ _))) | (with_reducible first | apply qAj | apply qAi | apply qAh | apply qAf) | ((with_reducible apply rp); ((with_reducible apply qAN); eq_refl; eq_refl)))
              refine qAn rfl (fun hd => ?_) (fun hd => ?_)
              · have hjt : j < E.length := by simpa using hd
                clear hd
                obtain ⟨wj, hw⟩ : ∃ w, W[j]? = some w := ⟨_, List.getElem?_eq_getElem (by omega)⟩
                have hgw := hget j wj hw
                have hany := qFo (fun o => o == kr) hw
                generalize (W.take j).any (fun o => o == kr) = aj at *
                repeat (first | ((first | (with_reducible apply rpGT) | (with_reducible apply drGT) | (with_reducible apply qCj) | (with_reducible apply qCh)); eq_refl; exact qAP rfl; (first | eq_refl | assumption | decide); (focus repeat' (first | exact trivial | exact id | apply And.intro)); ((first | ((with_reducible first | apply qAd | apply qAa); (conv => lhs; whnf)) | ((with_reducible first | apply qAJ | apply qAc | apply qAr) <;> first | ((with_reducible apply tyOk); eq_refl) | eq_refl | exact id | decide) | ((with_reducible apply qBp); exact tyOk rfl; eq_refl; eq_refl; assumption; eq_refl) | ((with_reducible apply qBR); exact tyOk rfl; (iterate 3 eq_refl); assumption; eq_refl) | ((with_reducible apply qAH); exact tyOk rfl; eq_refl; exact tyOk rfl; (iterate 4 eq_refl); (first | omega | (dsimp only; simp only [List.length_map, List.length_append, List.length_cons, List.length_nil] at *; omega))) | ((with_reducible apply qBy); exact tyOk rfl; eq_refl; exact tyOk rfl; (iterate 3 eq_refl); (first | omega | (dsimp only; simp only [List.length_map, List.length_append, List.length_cons, List.length_nil] at *; omega))) | ((with_reducible apply qAI); eq_refl; eq_refl; omega; omega)); (first | exact qAB _ | exact qBQ _ _ | exact qBP _ _ _ | exact qBO _ _ _ _))) | (with_reducible first | apply qAj | apply qAi | apply qAh | apply qAf | apply qAo | apply qAF | apply qAm) | ((first | (with_reducible apply rp) | ((with_reducible apply rpG); eq_refl; exact qAP rfl; (focus repeat' (first | exact trivial | exact id | apply And.intro)); intro zg; have zh := zg; (try simp only [zs1, zs2, zs3, zs4] at zg))); first | ((with_reducible first | apply qAd | apply qAa); (conv => lhs; whnf)) | ((with_reducible first | apply qAJ | apply qAc | apply qAr) <;> first | ((with_reducible apply tyOk); eq_refl) | eq_refl | exact id | decide) | ((with_reducible apply qBp); exact tyOk rfl; eq_refl; eq_refl; assumption; eq_refl) | ((with_reducible apply qBR); exact tyOk rfl; (iterate 3 eq_refl); assumption; eq_refl) | ((with_reducible apply qAH); exact tyOk rfl; eq_refl; exact tyOk rfl; (iterate 4 eq_refl); (first | omega | (dsimp only; simp only [List.length_map, List.length_append, List.length_cons, List.length_nil] at *; omega))) | ((with_reducible apply qBy); exact tyOk rfl; eq_refl; exact tyOk rfl; (iterate 3 eq_refl); (first | omega | (dsimp only; simp only [List.length_map, List.length_append, List.length_cons, List.length_nil] at *; omega))) | ((with_reducible apply qAI); eq_refl; eq_refl; omega; omega)))
                refine ⟨_, _, ?_, ?_, j + 1, by omega, rfl, rfl⟩
                · omega
                · rw [hany]
                  refine qAw [] (by repeat' (first | exact qAG | (refine qAx rfl (by exact SubA.refl _) ?_))) (by repeat' (first | exact trivial | eq_refl | exact kb_d rfl | apply And.intro)) rfl (insS rfl) (by repeat' (first | exact trivial | exact qA0 _ | exact qBJ rfl | exact qAX rfl | apply And.intro))
              · have hje : j = E.length := by simp at hd; omega
                clear hd
                subst hje
                have hta : ((W.take E.length).any fun o => o == kr) = true := by rw [hEl, List.take_length, hall]
                rw [hta]
                repeat (first | ((first | (with_reducible apply rpGT) | (with_reducible apply drGT) | (with_reducible apply qCj) | (with_reducible apply qCh)); eq_refl; (first | exact qAT rfl | exact qAP rfl | exact qBk rfl | exact qBs rfl); (first | eq_refl | assumption | decide); (focus repeat' (first | exact trivial | exact id | apply And.intro | (intro h; (first | exact h | (simp only [Bool.and_eq_true] at h; (first | exact h.1 | exact h.1.1 | exact h.1.1.1 | exact h.2)) | (rw [h]; rfl) | (rw [zh, h]; rfl) | simp_all)))); ((first | ((with_reducible apply qAd); (conv => lhs; whnf)) | ((with_reducible apply qAI); eq_refl; eq_refl; omega; omega) | ((with_reducible apply qAZ); eq_refl)); (first | exact qAB _ | exact qBQ _ _ | exact qBP _ _ _ | exact qBO _ _ _ _))) | (with_reducible first | apply qAj | apply qAi | apply qAh | apply qAf | apply qA5 | apply qA9 | apply qA8 | apply qAF | apply qAm) | ((with_reducible apply rp); first | ((with_reducible apply qAd); (conv => lhs; whnf)) | ((with_reducible apply qAI); eq_refl; eq_refl; omega; omega) | ((with_reducible apply qAZ); eq_refl)) | ((with_reducible apply qA6); eq_refl; eq_refl))
                refine ⟨_, _, ?_, ?_, b + 1, by omega, rfl, rfl⟩
                · omega
                · refine qAw [] (by repeat' (first | exact qAG | (refine qAx rfl (by exact SubA.refl _) ?_))) (by repeat' (first | exact trivial | eq_refl | exact kb_d rfl | apply And.intro)) rfl (insS rfl) (by repeat' (first | exact trivial | exact qA0 _ | exact qBJ rfl | exact qAX rfl | apply And.intro))
          · have hbe : b = bs.length := by simp at hd; omega
            clear hd
            subst hbe
            have e2 : (((tn : Nat) : Int) == ((tn : Nat) : Int)) = true := by simp
            have e3 : (((bs.length : Nat) : Int) == ((rs.length : Nat) : Int)) = true := by rw [hlb]; simp
            repeat (first | ((first | (with_reducible apply rpGT) | (with_reducible apply drGT) | (with_reducible apply qCj) | (with_reducible apply qCh)); eq_refl; exact qAT rfl; (first | eq_refl | assumption | decide); (focus repeat' (first | exact trivial | apply And.intro)); ((first | (exact qA3 (tyOk rfl) rfl rfl rfl hUl) | ((with_reducible apply qAg); eq_refl; eq_refl; (first | exact (tt) | exact (ck)); eq_refl) | (exact qDd e2 rfl rfl) | (exact qDd e3 rfl rfl) | ((with_reducible first | apply qAd | apply qAa); (conv => lhs; whnf)) | ((with_reducible first | apply qAM | apply qAr | apply qA7) <;> first | ((with_reducible apply tyOk); eq_refl) | eq_refl | exact trivial)); (first | exact qAB _ | exact qBQ _ _ | exact qBP _ _ _ | exact qBO _ _ _ _))) | (with_reducible first | apply qAj | apply qAi | apply qAh | apply qAf | apply qA5 | apply qA9 | apply qA8 | apply qAu | apply qAz) | ((with_reducible apply rp); first | (exact qA3 (tyOk rfl) rfl rfl rfl hUl) | ((with_reducible apply qAg); eq_refl; eq_refl; exact (tt); eq_refl) | ((with_reducible apply qAg); eq_refl; eq_refl; exact (ck); eq_refl) | (exact qDd e2 rfl rfl) | (exact qDd e3 rfl rfl) | ((with_reducible apply qAd); (conv => lhs; whnf)) | ((with_reducible apply qAa); (conv => lhs; whnf)) | ((with_reducible apply qAM); (iterate 3 eq_refl); exact trivial) | ((with_reducible apply qAr); eq_refl; eq_refl) | ((with_reducible apply qA7); exact tyOk rfl; eq_refl; eq_refl)))
            (with_reducible apply qAA); (focus (repeat' (first | (with_reducible apply qAv) | (with_reducible apply qAq) | ((with_reducible apply qAD); eq_refl)))); eq_refl; refine SubD.of_eq ?_
            rfl
theorem updU_ce {cols : List Cl} {d : List Ce} (hk : ∃ n l, cols = ⟨n, 2, false⟩ :: l) (h : DrOk cols d) (y : List Vl → Bool) : ∀ c ∈ d.map (updC y), CeOk cols c := by
  intro c hc
  obtain ⟨e, he, rfl⟩ := List.mem_map.1 hc
  have ho := h.ok e he
  refine ⟨fun hf => ?_, fun hf => ?_⟩
  · rw [qDW] at hf
    unfold updC
    split
    · exact key3_fit hk (ho.fit hf)
    · exact ho.fit hf
  · rw [qDW] at hf
    unfold updC goB
    rw [hf, Bool.false_and, if_neg (by decide)]
    exact ho.none hf
theorem drU_ok {t : Tb} (h : TbOk t) {i : Nat} {d : List Ce} (hd : DrOk t.cols d) : TbOk (t.dr i d) := by
  unfold Tb.dr
  split
  · exact ⟨h.name, h.cols, h.key, hd, h.b⟩
  · exact ⟨h.name, h.cols, h.key, h.a, hd⟩
theorem drU_drF (t : Tb) (i : Nat) (d : List Ce) : drF (t.dr i d).a (t.dr i d).b i = d := by
  unfold Tb.dr drF
  by_cases h : i = 0
  · rw [if_pos h, if_pos h]
  · rw [if_neg h, if_neg h]
set_option maxHeartbeats 8000000 in
theorem updateParts_pc (l : List Raw) (dz : Int) : PC Tryd.prog 6 [qBh l, iD dz] (bD true) := by
  have g1 := tabled_pg l
  have hc := colsF_ok (l.take (l.length % 4))
  have hk : ∃ n l', qCl l = ⟨n, 2, false⟩ :: l' := ⟨_, _, rfl⟩
  have h0 : ∀ c, (qCl l)[0]? = some c → c.kind = 2 := fun c h => by injection h with h; subst h; rfl
  obtain ⟨ht, htc, hkt⟩ := tabF_ok (l.take 40) (cols := qCl l) hc hk h0 (l.length % 8)
  have hge := tabF_ge (l.take 40) hk (l.length % 8)
  have hs := tabC_sub (l.take 40) (qCl l) (l.length % 8)
  have hcl : (tabC (l.take 40) (qCl l) (l.length % 8)).length = 19 := by
    unfold tabC
    split
    · rfl
    · exact Tb.len ht
  have hcol : (tabC (l.take 40) (qCl l) (l.length % 8))[2]? = some (qAW (qCl l)) := by
    have hl : ((tabF (l.take 40) (qCl l) (l.length % 8)).cs)[2]? = some (qAW (qCl l)) := by
      show some (qAW (tabF (l.take 40) (qCl l) (l.length % 8)).cols) = _
      rw [htc]
    unfold tabC
    split
    · rfl
    · exact hl
  have hL8 : l.length % 8 < 8 := Nat.mod_lt _ (by decide)
  have hl5 := hc.len
  have hnn : l.length % 8 * ((qCl l).length + 1) ≤ 8 * 6 := Nat.mul_le_mul (by omega) (by unfold qCl; omega)
  obtain ⟨i, hi⟩ : ∃ i : Nat, dz % ((2 : Nat) : Int) = i := ⟨(dz % 2).toNat, by omega⟩
  have hi2 : i < 2 := by omega
  have p2 := qAQ dz 2 (by omega) (by omega)
  rw [hi] at p2
  have hl5' : (qCl l).length ≤ 5 := hl5
  obtain ⟨x, n2, hx, _, _, x1⟩ := expr_pc (l.take 40) (qCl l) (by omega) 2 1 (l.length % 8 * ((qCl l).length + 1)) (by omega) (by omega) (by omega) (by omega)
  have hok := hx.ok (fun c h => hc.name c h)
  have hdp : x.deep ≤ 7 := by have := hx.deep; omega
  have hnm : x.num ≤ 40 := by have := hx.num; omega
  have hkd : Kd (ofF (qCl l) x) 1 := hx.kind hc.once
  have hkt8 := (hkt.mono (L := 8) (by omega)).dr i
  have hger : ∀ c ∈ drF (tabF (l.take 40) (qCl l) (l.length % 8)).a (tabF (l.take 40) (qCl l) (l.length % 8)).b i, c.full = true → -3 ≤ keyN c.row := fun c hc' hf => by
    unfold drF at hc'
    split at hc'
    · exact hge c (.inl hc') hf
    · exact hge c (.inr hc') hf
  unfold hpB at x1
  clear hkt hge hi hx
  generalize tabC (l.take 40) (qCl l) (l.length % 8) = cs at *
  generalize tabF (l.take 40) (qCl l) (l.length % 8) = t at *
  generalize l.length % 8 * ((qCl l).length + 1) = nn at *
  obtain ⟨cl, hcle⟩ : ∃ cl, qCl l = ⟨kN, 2, false⟩ :: cl := ⟨_, rfl⟩
  rw [← htc] at hkd
  obtain ⟨oa, ob, j, _, _, c1, _, e1, _, _⟩ := one_both hi2
  have sub : ∀ o : D, qBK [.ag cs, o] [.ag t.cs, o] := fun o => qBK.cons (SubD.ag hs) id (qBK.refl _)
  have sub4 : ∀ o u v : D, qBK [.ag cs, o, u, v] [.ag t.cs, o, u, v] := fun o u v => qBK.cons (SubD.ag hs) id (qBK.refl _)
  have rA := (rows_pc t ht oa ob).args (sub _)
  rw [e1] at rA
  have hdr := ht.dr i
  have hkey := ht.key
  obtain ⟨_, hmem⟩ := qFF hdr
  have hH : ∀ r ∈ qBW true (drF t.a t.b i) [], PC Tryd.prog 28 [.ag x.cs, qAW (qCl l), qBx r] (.tu [bD (holF t.cols r x), iD (evF t.cols r x).e]) := fun r hr => by
    obtain ⟨c, hc', hf, rfl⟩ := (hmem r).1 hr
    have := holds_pc t.cols ht.cols x hok hdp hnm hkd c.row ((hdr.ok c hc').fit hf)
    rw [htc] at this ⊢
    exact this
  have hA4 := (qE6 ht.key true hdr.ok (acc := []) (fun p hp => absurd hp (by simp))).2
  rw [hdr.len] at hA4
  simp only [List.length_nil, Nat.zero_add] at hA4
  have tt := tableTells_pc
  have hrk : ∀ r ∈ qBW true (drF t.a t.b i) [], ∃ kr lr, r = numV kr :: lr ∧ -3 ≤ kr ∧ kr < 8 := fun r hr => by
    obtain ⟨c, hc', hf, rfl⟩ := (hmem r).1 hr
    obtain ⟨kr, lr, e⟩ := qCm ((hdr.ok c hc').fit hf) hkey
    have q1 := hger c hc' hf
    have q2 := hkt8 c hc' hf
    rw [e] at q1 q2
    exact ⟨kr, lr, e, q1, q2⟩
  have kx := qCv 5 upM (.lit (numV 1))
  have ku := (qCv 7 (.col kN) (.lit (numV 3))).args (ds' := [iD 7, .ag [iD 2, iD 0, iD 0, qD 0, strD .empty, strD kN, .nl], .ag (Ex.lit (numV 3)).cs]) (qBK.cons (SubD.refl _) id (qBK.cons (SubD.ag (qBK.cons (SubD.refl _) id (qBK.cons (SubD.refl _) id (qBK.cons (SubD.refl _) id (qBK.cons (SubD.refl _) id (qBK.cons (SubD.refl _) id (qBK.cons (SubD.refl _) id (qBK.cons (SubD.nil 7) (fun _ => rfl) qBK.nil)))))))) id (qBK.refl _)))
  have hl4 : cl.length ≤ 1000 := by have := hl5'; rw [hcle, List.length_cons] at this; omega
  have hcu : ColsOk (⟨kN, 2, false⟩ :: cl) := by rw [← hcle]; exact hc
  have ko := kOf_pc _ hcu upX up_ok (by decide) (by decide) (by rw [up_of])
  rw [up_of] at ko
  have s1 : PC Tryd.prog 55 [.sl 8 [strD kN :: upX.cs], qAW t.cols] (iD 0) := by
    rw [htc, hcle]
    exact sets0_pc kN cl hl4 _ _ _ _ _ _ _ false ko
  have hch : ∀ c ∈ drF t.a t.b i, c.full = true → PC Tryd.prog 56 [qBx c.row, qAW t.cols, .sl 8 [strD kN :: upX.cs]] (.tu [qBx (key3 c.row), iD 0]) := fun c hc' hf => by
    have hfit := (hdr.ok c hc').fit hf
    have q1 := hger c hc' hf
    have q2 := hkt8 c hc' hf
    have hlen := hfit.len
    obtain ⟨kr, lr, e⟩ := qCm hfit hkey
    rw [htc, hcle] at hfit hlen ⊢
    have hv := up_ev hfit q1 q2
    have ev := eval_pc _ hcu _ hfit upX up_ok (by decide) (by decide)
    rw [hv, if_pos rfl] at ev
    rw [e] at ev hlen ⊢
    rw [List.length_cons, List.length_cons] at hlen
    exact changed0_pc kN cl hl4 _ _ _ _ _ _ _ kr _ lr (by omega) ev
  have hdl := hdr.len
  have hall := updD_all (fun r => holF t.cols r x) hdl
  have hw := apart_want hdr (fun r => holF t.cols r x)
  have hcnt := upd_count hdr (fun r => holF t.cols r x)
  have hez := errF_zero (fun r => (evF t.cols r x).e) (drF t.a t.b i)
  have hfz := fellB_false (y := fun r => holF t.cols r x) (ev := fun r => (evF t.cols r x).e) (l := qBW true (drF t.a t.b i) [])
  have hrows : (∀ r ∈ qBW true (drF t.a t.b i) [], (fun r => (evF t.cols r x).e) r = 0) ↔ errF (fun r => (evF t.cols r x).e) (drF t.a t.b i) = 0 := by
    rw [hez]
    constructor
    · intro h c hc' hf
      exact h _ ((hmem _).2 ⟨c, hc', hf, rfl⟩)
    · intro h r hr
      obtain ⟨c, hc', hf, rfl⟩ := (hmem r).1 hr
      exact h c hc' hf
  rw [hrows, ← hw] at hfz
  by_cases hap : Apart ((drF t.a t.b i).map (updC fun r => holF t.cols r x))
  · have hdu := upd_ok hkey hdr (fun r => holF t.cols r x) hap
    have hkd0 := keys_pc t.cols hkey _ hdu
    rw [← hall] at hkd0
    have up := (update_pc t ht i hi2 x hok hdp hnm hkd _ 0 s1 hch hkd0).args (sub4 _ _ _)
    unfold updR at up
    by_cases her : errF (fun r => (evF t.cols r x).e) (drF t.a t.b i) = 0
    · rw [if_neg (fun h => h her), if_neg (by decide)] at up
      have hto := drU_ok ht (i := i) hdu
      have rB := rows_pc _ hto oa ob
      rw [e1, drU_drF] at rB
      have ck := check_tb _ hto
      have hperm := upd_rows hkey hdr (fun r => holF t.cols r x) hap
      obtain ⟨_, hmem2⟩ := qFF hdu
      rw [hall] at up
      have hlenU := Tb.len hto
      refine qCg l (l.take 40) (qCl l) cs _ x.cs _ nn n2 i _ 0 0 dz (qBW true (drF t.a t.b i) []) _ oa ob (fun r => holF t.cols r x) (fun r => (evF t.cols r x).e) g1 hcl hlenU x.cs_len hcol p2 x1 kx ku up c1 rA (fun _ => rB) hH tt (fun _ => ck) hA4 hrk (.inr ⟨hfz.2 ⟨her, hap⟩, rfl, rfl, hcnt, ?_, fun r hr => ?_⟩)
      · have := hperm.length_eq
        rwa [List.length_map, List.length_map] at this
      · obtain ⟨c, hc', hf, rfl⟩ := (hmem2 r).1 hr
        obtain ⟨kr, lr, e⟩ := qCm ((hdu.ok c hc').fit hf) hkey
        refine ⟨kr, lr, e, ?_⟩
        have := hperm.mem_iff.1 (List.mem_map_of_mem hr)
        have ek : keyN c.row = kr := by rw [e]; rfl
        rw [ek] at this
        exact this
    · rw [if_pos her] at up
      refine qCg l (l.take 40) (qCl l) cs tb0 x.cs _ nn n2 i 0 _ 5 dz (qBW true (drF t.a t.b i) []) [] oa ob (fun r => holF t.cols r x) (fun r => (evF t.cols r x).e) g1 hcl rfl x.cs_len hcol p2 x1 kx ku up c1 rA (fun h => absurd h her) hH tt (fun h => absurd h her) hA4 hrk (.inl ⟨?_, her, rfl⟩)
      exact Bool.of_not_eq_false fun h => her (hfz.1 h).1
  · have hkd8 := keys_dup t.cols hkey _ (by rw [List.length_map]; exact hdl) (updU_ce hkey hdr fun r => holF t.cols r x) hap
    rw [← hall] at hkd8
    have up := (update_pc t ht i hi2 x hok hdp hnm hkd _ 8 s1 hch hkd8).args (sub4 _ _ _)
    unfold updR at up
    have hfell : fellB (fun r => holF t.cols r x) (fun r => (evF t.cols r x).e) (qBW true (drF t.a t.b i) []) = true := Bool.of_not_eq_false fun h => hap (hfz.1 h).2
    by_cases her : errF (fun r => (evF t.cols r x).e) (drF t.a t.b i) = 0
    · rw [if_neg (fun h => h her), if_pos (by decide)] at up
      exact qCg l (l.take 40) (qCl l) cs tb0 x.cs _ nn n2 i 0 8 5 dz (qBW true (drF t.a t.b i) []) [] oa ob (fun r => holF t.cols r x) (fun r => (evF t.cols r x).e) g1 hcl rfl x.cs_len hcol p2 x1 kx ku up c1 rA (fun h => absurd h (by decide)) hH tt (fun h => absurd h (by decide)) hA4 hrk (.inl ⟨hfell, by decide, rfl⟩)
    · rw [if_pos her] at up
      exact qCg l (l.take 40) (qCl l) cs tb0 x.cs _ nn n2 i 0 _ 5 dz (qBW true (drF t.a t.b i) []) [] oa ob (fun r => holF t.cols r x) (fun r => (evF t.cols r x).e) g1 hcl rfl x.cs_len hcol p2 x1 kx ku up c1 rA (fun h => absurd h her) hH tt (fun h => absurd h her) hA4 hrk (.inl ⟨hfell, her, rfl⟩)
theorem qEZ (A : Option Addr) (l : List Raw) (c : Nat) (dz : Int) (w : World) (h : RdR w w.heap.size A l) (hc : l.length ≤ c) (_ : c * 40 ≤ 140737488351232) (hr : ∀ r ∈ l, r.ok) (hd : I64 dz) (hg : GlOk (Lt w) w) : Calls Tryd.prog 6 #[.slice A l.length c, .int .i64 dz] w fun e w' => e = .returned (.bool true) ∧ Below w.heap.size w w' :=
  calls_of_pc (updateParts_pc l dz) (rep_cons (rep_raws h hc) (rep_cons (rep_int w dz) rfl)) hg
end Go.Proofs.YtpaccaojgbfjdaaDoor

