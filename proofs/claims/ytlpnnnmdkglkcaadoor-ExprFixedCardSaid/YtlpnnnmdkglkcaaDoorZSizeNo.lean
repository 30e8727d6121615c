/-
  expr.size, Check of an expression that is too large. No condition.
-/
import Derived.Test.YtlpnnnmdkglkcaaDoorZX
set_option linter.unusedSimpArgs false
set_option linter.unusedVariables false
namespace Go.Proofs.YtlpnnnmdkglkcaaDoor
open Go.RowKit

theorem deep_le {x : Ex} {m : Nat} (h : ∀ a ∈ x.args, a.deep ≤ m) : x.deep ≤ m + 1 := by
  cases x with
  | lit v => show (1 : Nat) ≤ _; omega
  | col n => show (1 : Nat) ≤ _; omega
  | un op a => have := h a (by simp [Ex.args]); simp only [Ex.deep]; omega
  | bi op a b =>
    have h1 := h a (by simp [Ex.args])
    have h2 := h b (by simp [Ex.args])
    simp only [Ex.deep]; omega
set_option maxHeartbeats 1000000 in
theorem size_no : ∀ (f : Nat) (x : Ex) (d : Nat), x.deep ≤ f → d ≤ 8 → ¬ (d + x.deep ≤ 8 ∧ x.num ≤ 40) → PC Tryd.prog 45 [.ag x.cs, iD d] (.tu [iD 0, bD false])
  | 0, x, d, hf, _, _ => absurd hf (by have := x.deep_pos; omega)
  | f + 1, x, d, hf, hd8, hn => by
    have ih := size_no f
    have hdp := fun a => Ex.deep_arg (x := x) (a := a)
    have hxp := x.deep_pos
    have hnum := x.num_eq
    have hal := x.args_len
    have hn2 : ¬ ((∀ a ∈ x.args, d + 1 + a.deep ≤ 8) ∧ d ≤ 7 ∧ 1 + numL x.args ≤ 40) := fun ⟨h1, h3, h2⟩ => hn ⟨by
      have := deep_le (x := x) (m := 7 - d) fun a ha => by have := h1 a ha; omega
      omega, by omega⟩
    rw [Ex.cs_eq]
    clear hn hnum
    generalize x.op = op
    generalize x.val = v
    generalize x.nam = nm
    generalize x.args = l at *
    refine qAJ Tryd.func45 rfl (by kernel_rfl) mixed (by kernel_rfl) (qle (by kernel_rfl)) Tryd.results45 ?_
    repeat (first | ((first | (with_reducible apply rpGT) | (with_reducible apply drGT) | (with_reducible apply qAP) | (with_reducible apply qAQ)); eq_refl; (first | exact qAy rfl | exact qAx rfl | exact qAv rfl | exact qAw rfl); (first | eq_refl | assumption | decide); (focus repeat' (first | exact trivial | exact id | apply And.intro | (intro h; (first | exact h | (simp only [Bool.and_eq_true] at h; (first | exact h.1 | exact h.1.1 | exact h.1.1.1 | exact h.2)) | (rw [h]; rfl) | (rw [zh, h]; rfl) | simp_all)))); ((first | ((with_reducible first | apply qAe | apply qAd); (conv => lhs; whnf)) | ((with_reducible first | apply qA8 | apply qAp) <;> eq_refl)); (first | exact qAb _ | exact qAk _ _ | exact qAj _ _ _ | exact qAl _ _ _ _))) | (with_reducible first | apply qAt | apply qAs | apply qAr | apply qAn) | ((with_reducible apply rp); first | ((with_reducible apply qAe); (conv => lhs; whnf)) | ((with_reducible apply qAd); (conv => lhs; whnf)) | ((with_reducible apply qA8); eq_refl; eq_refl)) | ((with_reducible apply rp1); ((with_reducible apply qAp); eq_refl; eq_refl)))
    refine qAN rfl (fun hd => ?_) (fun hd => ?_)
    · clear hd
      repeat (first | ((first | (with_reducible apply rpGT) | (with_reducible apply drGT) | (with_reducible apply qAP) | (with_reducible apply qAQ)); eq_refl; (first | exact qAy rfl | exact qAx rfl | exact qAv rfl | exact qAw rfl); (first | eq_refl | assumption | decide); (focus repeat' (first | exact trivial | exact id | apply And.intro | (intro h; (first | exact h | (simp only [Bool.and_eq_true] at h; (first | exact h.1 | exact h.1.1 | exact h.1.1.1 | exact h.2)) | (rw [h]; rfl) | (rw [zh, h]; rfl) | simp_all)))); ((first | ((with_reducible apply qAd); (conv => lhs; whnf))); (first | exact qAb _ | exact qAk _ _ | exact qAj _ _ _ | exact qAl _ _ _ _))) | (with_reducible first | apply qAt | apply qAs | apply qAr | apply qAn | apply qAM | apply qBm | apply qAX) | ((with_reducible apply rp); ((with_reducible apply qAd); (conv => lhs; whnf))))
      (with_reducible apply qAW); (focus (repeat' (first | (with_reducible apply qAL) | (with_reducible apply qAB) | ((with_reducible apply qA1); eq_refl)))); eq_refl; refine SubD.of_eq ?_
      rfl
    · have hd7 : d ≤ 7 := by simp at hd; omega
      clear hd
      repeat (first | ((first | (with_reducible apply rpGT) | (with_reducible apply drGT) | (with_reducible apply qAP) | (with_reducible apply qAQ)); eq_refl; (first | exact qAy rfl | exact qAx rfl | exact qAv rfl | exact qAw rfl); (first | eq_refl | assumption | decide); (focus repeat' (first | exact trivial | exact id | apply And.intro | (intro h; (first | exact h | (simp only [Bool.and_eq_true] at h; (first | exact h.1 | exact h.1.1 | exact h.1.1.1 | exact h.2)) | (rw [h]; rfl) | (rw [zh, h]; rfl) | simp_all)))); ((first | ((with_reducible first | apply qAe | apply qAd); (conv => lhs; whnf)) | ((with_reducible first | apply qAg | apply qAi | apply qAz) <;> first | ((with_reducible apply tyOk); eq_refl) | eq_refl | decide)); (first | exact qAb _ | exact qAk _ _ | exact qAj _ _ _ | exact qAl _ _ _ _))) | (with_reducible first | apply qAt | apply qAs | apply qAr | apply qAn | apply qAC | apply qAH) | ((with_reducible apply rp); first | ((with_reducible apply qAe); (conv => lhs; whnf)) | ((with_reducible apply qAd); (conv => lhs; whnf)) | ((with_reducible apply qAg); exact tyOk rfl; eq_refl; eq_refl; decide; eq_refl) | ((with_reducible apply qAi); exact tyOk rfl; (iterate 4 eq_refl)) | ((with_reducible apply qAz); exact tyOk rfl; eq_refl; eq_refl)))
      refine qCb (fun m s => ∃ k, k ≤ l.length ∧ (∀ a ∈ l.take k, d + 1 + a.deep ≤ 8) ∧ 1 + numL (l.take k) ≤ 40 ∧ m = l.length - k ∧ s = ⟨[(1, .d (iD d)), (6, .d (iD (1 + numL (l.take k) : Nat))), (14, .d (argsD l)), (15, .d (iD l.length)), (16, .d (iD k))], []⟩) _ _ ?_ ⟨0, by omega, fun a ha => by simp at ha, by simp [numL], rfl, rfl⟩ ?_
      · refine qA5 [] (by repeat' (first | exact qA7 | (refine qAY rfl (by exact SubA.refl _) ?_))) (kpX rfl) rfl (insS rfl) (insX rfl)
      · rintro m s ⟨k, hk, hfit, hq, rfl, rfl⟩
        repeat (first | ((first | (with_reducible apply rpGT) | (with_reducible apply drGT) | (with_reducible apply qAP) | (with_reducible apply qAQ)); eq_refl; (first | exact qAy rfl | exact qAx rfl | exact qAv rfl | exact qAw rfl); (first | eq_refl | assumption | decide); (focus repeat' (first | exact trivial | exact id | apply And.intro | (intro h; (first | exact h | (simp only [Bool.and_eq_true] at h; (first | exact h.1 | exact h.1.1 | exact h.1.1.1 | exact h.2)) | (rw [h]; rfl) | (rw [zh, h]; rfl) | simp_all)))); ((first | ((with_reducible apply qA0); eq_refl; eq_refl)); (first | exact qAb _ | exact qAk _ _ | exact qAj _ _ _ | exact qAl _ _ _ _))) | (with_reducible first | apply qAt | apply qAs | apply qAr | apply qAn) | ((with_reducible apply rp); ((with_reducible apply qA0); eq_refl; eq_refl)))
        refine qAN rfl (fun hd => ?_) (fun hd => ?_)
        · have hlt : k < l.length := by simp at hd; omega
          clear hd
          obtain ⟨a, ha⟩ : ∃ a, l[k]? = some a := ⟨_, List.getElem?_eq_getElem hlt⟩
          have ha2 : (l.map Ex.cs)[k]? = some a.cs := by rw [List.getElem?_map, ha]; rfl
          have hm := hdp a (List.mem_of_getElem? ha)
          have ht : numL (l.take (k + 1)) = numL (l.take k) + a.num := by rw [List.take_add_one, ha, numL_app]; rfl
          have hcl := a.cs_eq
          by_cases hfa : d + 1 + a.deep ≤ 8 ∧ a.num ≤ 40
          · have p1 := size_pc a.deep a (d + 1) (Nat.le_refl _) (by omega) hfa.2
            have han := hfa.2
            have hfit2 : ∀ b ∈ l.take (k + 1), d + 1 + b.deep ≤ 8 := fun b hb => by
              rw [List.take_add_one, ha] at hb
              rcases List.mem_append.1 hb with hb | hb
              · exact hfit b hb
              · have : b = a := by simpa using hb
                rw [this]; exact hfa.1
            clear hfa hfit hm
            generalize a.num = an at *
            generalize numL (l.take k) = q at *
            generalize a.cs = acs at *
            subst hcl
            repeat (first | ((first | (with_reducible apply rpGT) | (with_reducible apply drGT) | (with_reducible apply qAP) | (with_reducible apply qAQ)); eq_refl; exact qAx rfl; (first | eq_refl | assumption | decide); (focus repeat' (first | exact trivial | apply And.intro)); ((first | ((with_reducible apply qAa); eq_refl; eq_refl; exact (p1); eq_refl) | ((with_reducible first | apply qAe | apply qAd); (conv => lhs; whnf)) | ((with_reducible first | apply qBa | apply qAm | apply qA8 | apply qA9 | apply qAT | apply qAh | apply qAf) <;> first | ((with_reducible apply tyOk); eq_refl) | eq_refl | exact qle rfl | exact trivial) | ((with_reducible apply qAu); exact tyOk rfl; eq_refl; eq_refl; assumption; eq_refl) | ((with_reducible apply qAA); exact tyOk rfl; eq_refl; exact tyOk rfl; (iterate 4 eq_refl); (simp only [List.length_map, List.length_append, List.length_cons, List.length_nil] at *; omega)) | ((with_reducible apply qAZ); eq_refl; eq_refl; omega; omega)); (first | exact qAb _ | exact qAk _ _ | exact qAj _ _ _ | exact qAl _ _ _ _))) | (with_reducible first | apply qAt | apply qAs | apply qAr | apply qAn | apply qAC | apply qAH) | ((with_reducible apply rp); first | ((with_reducible apply qAa); eq_refl; eq_refl; exact (p1); eq_refl) | ((with_reducible apply qAe); (conv => lhs; whnf)) | ((with_reducible apply qAd); (conv => lhs; whnf)) | ((with_reducible apply qBa); (iterate 3 eq_refl); exact trivial) | ((with_reducible apply qAm); exact tyOk rfl; (iterate 3 eq_refl); exact qle rfl; eq_refl) | ((with_reducible apply qAu); exact tyOk rfl; eq_refl; eq_refl; assumption; eq_refl) | ((with_reducible apply qAA); exact tyOk rfl; eq_refl; exact tyOk rfl; (iterate 4 eq_refl); (simp only [List.length_map, List.length_append, List.length_cons, List.length_nil] at *; omega)) | ((with_reducible apply qA8); eq_refl; eq_refl) | ((with_reducible apply qAZ); eq_refl; eq_refl; omega; omega) | ((with_reducible apply qA9); eq_refl) | ((with_reducible apply qAT); eq_refl; eq_refl)) | ((with_reducible apply rp1); ((with_reducible apply qAh); exact tyOk rfl; eq_refl)) | ((with_reducible apply rpN); ((with_reducible apply qAf); exact tyOk rfl; (iterate 5 eq_refl))))
            refine qAN rfl (fun hd => ?_) (fun hd => ?_)
            · clear hd
              repeat (first | ((first | (with_reducible apply rpGT) | (with_reducible apply drGT) | (with_reducible apply qAP) | (with_reducible apply qAQ)); eq_refl; (first | exact qAy rfl | exact qAx rfl | exact qAv rfl | exact qAw rfl); (first | eq_refl | assumption | decide); (focus repeat' (first | exact trivial | exact id | apply And.intro | (intro h; (first | exact h | (simp only [Bool.and_eq_true] at h; (first | exact h.1 | exact h.1.1 | exact h.1.1.1 | exact h.2)) | (rw [h]; rfl) | (rw [zh, h]; rfl) | simp_all)))); ((first | ((with_reducible apply qAd); (conv => lhs; whnf))); (first | exact qAb _ | exact qAk _ _ | exact qAj _ _ _ | exact qAl _ _ _ _))) | (with_reducible first | apply qAt | apply qAs | apply qAr | apply qAn | apply qAM | apply qBm | apply qBU | apply qAX) | ((with_reducible apply rp); ((with_reducible apply qAd); (conv => lhs; whnf))))
              (with_reducible apply qAW); (focus (repeat' (first | (with_reducible apply qAL) | (with_reducible apply qAB) | ((with_reducible apply qA1); eq_refl)))); eq_refl; refine SubD.of_eq ?_
              rfl
            · have hle : 1 + q + an ≤ 40 := by simp at hd; omega
              clear hd
              repeat (first | ((first | (with_reducible apply rpGT) | (with_reducible apply drGT) | (with_reducible apply qAP) | (with_reducible apply qAQ)); eq_refl; (first | exact qAy rfl | exact qAx rfl | exact qAv rfl | exact qAw rfl); (first | eq_refl | assumption | decide); (focus repeat' (first | exact trivial | exact id | apply And.intro | (intro h; (first | exact h | (simp only [Bool.and_eq_true] at h; (first | exact h.1 | exact h.1.1 | exact h.1.1.1 | exact h.2)) | (rw [h]; rfl) | (rw [zh, h]; rfl) | simp_all)))); ((first | ((with_reducible apply qAe); (conv => lhs; whnf)) | ((with_reducible apply qAZ); eq_refl; eq_refl; omega; omega)); (first | exact qAb _ | exact qAk _ _ | exact qAj _ _ _ | exact qAl _ _ _ _))) | (with_reducible first | apply qAs | apply qAr | apply qAn | apply qA6 | apply qAH) | ((with_reducible apply rp); first | ((with_reducible apply qAe); (conv => lhs; whnf)) | ((with_reducible apply qAZ); eq_refl; eq_refl; omega; omega)))
              refine ⟨_, _, ?_, ?_, k + 1, by omega, hfit2, by omega, rfl, rfl⟩
              · omega
              · rw [ht, ← Nat.add_assoc]
                refine qA5 [] (by repeat' (first | exact qA7 | (refine qAY rfl (by exact SubA.refl _) ?_))) (kpX rfl) rfl (insS rfl) (insX rfl)
          · have p1 := ih a (d + 1) (by omega) (by omega) hfa
            clear hfa hfit hm
            generalize a.num = an at *
            generalize numL (l.take k) = q at *
            generalize a.cs = acs at *
            subst hcl
            repeat (first | ((first | (with_reducible apply rpGT) | (with_reducible apply drGT) | (with_reducible apply qAP) | (with_reducible apply qAQ)); eq_refl; exact qAx rfl; (first | eq_refl | assumption | decide); (focus repeat' (first | exact trivial | exact id | apply And.intro)); ((first | ((with_reducible apply qAa); eq_refl; eq_refl; exact (p1); eq_refl) | ((with_reducible first | apply qAe | apply qAd); (conv => lhs; whnf)) | ((with_reducible first | apply qBa | apply qAm | apply qA8 | apply qA9 | apply qAT | apply qAh | apply qAf) <;> first | ((with_reducible apply tyOk); eq_refl) | eq_refl | exact qle rfl | exact id) | ((with_reducible apply qAu); exact tyOk rfl; eq_refl; eq_refl; assumption; eq_refl) | ((with_reducible apply qAA); exact tyOk rfl; eq_refl; exact tyOk rfl; (iterate 4 eq_refl); (simp only [List.length_map, List.length_append, List.length_cons, List.length_nil] at *; omega)) | ((with_reducible apply qAZ); eq_refl; eq_refl; omega; omega)); (first | exact qAb _ | exact qAk _ _ | exact qAj _ _ _ | exact qAl _ _ _ _))) | (with_reducible first | apply qAt | apply qAs | apply qAr | apply qAn | apply qAC | apply qAH) | ((first | (with_reducible apply rp) | ((with_reducible apply rpG); eq_refl; exact qAx rfl; (focus repeat' (first | exact trivial | exact id | apply And.intro)); intro zg; have zh := zg; (try simp only [zs1, zs2, zs3, zs4] at zg))); first | ((with_reducible apply qAa); eq_refl; eq_refl; exact (p1); eq_refl) | ((with_reducible first | apply qAe | apply qAd); (conv => lhs; whnf)) | ((with_reducible first | apply qBa | apply qAm | apply qA8 | apply qA9 | apply qAT) <;> first | ((with_reducible apply tyOk); eq_refl) | eq_refl | exact qle rfl | exact id) | ((with_reducible apply qAu); exact tyOk rfl; eq_refl; eq_refl; assumption; eq_refl) | ((with_reducible apply qAA); exact tyOk rfl; eq_refl; exact tyOk rfl; (iterate 4 eq_refl); (simp only [List.length_map, List.length_append, List.length_cons, List.length_nil] at *; omega)) | ((with_reducible apply qAZ); eq_refl; eq_refl; omega; omega)) | ((with_reducible apply rp1); ((with_reducible apply qAh); exact tyOk rfl; eq_refl)) | ((with_reducible apply rpN); ((with_reducible apply qAf); exact tyOk rfl; (iterate 5 eq_refl))))
            refine qAN rfl (fun hd => ?_) (fun hd => absurd hd (by simp))
            clear hd
            repeat (first | ((first | (with_reducible apply rpGT) | (with_reducible apply drGT) | (with_reducible apply qAP) | (with_reducible apply qAQ)); eq_refl; (first | exact qAy rfl | exact qAx rfl | exact qAv rfl | exact qAw rfl); (first | eq_refl | assumption | decide); (focus repeat' (first | exact trivial | exact id | apply And.intro | (intro h; (first | exact h | (simp only [Bool.and_eq_true] at h; (first | exact h.1 | exact h.1.1 | exact h.1.1.1 | exact h.2)) | (rw [h]; rfl) | (rw [zh, h]; rfl) | simp_all)))); ((first | ((with_reducible apply qAd); (conv => lhs; whnf))); (first | exact qAb _ | exact qAk _ _ | exact qAj _ _ _ | exact qAl _ _ _ _))) | (with_reducible first | apply qAt | apply qAs | apply qAr | apply qAn | apply qAM | apply qBm | apply qBU | apply qAX) | ((with_reducible apply rp); ((with_reducible apply qAd); (conv => lhs; whnf))))
            (with_reducible apply qAW); (focus (repeat' (first | (with_reducible apply qAL) | (with_reducible apply qAB) | ((with_reducible apply qA1); eq_refl)))); eq_refl; refine SubD.of_eq ?_
            rfl
        · have hke : k = l.length := by simp at hd; omega
          clear hd
          subst hke
          rw [List.take_length] at hfit hq
          exact absurd ⟨hfit, hd7, hq⟩ hn2
theorem check_no (x : Ex) (hn : ¬ (x.deep ≤ 7 ∧ x.num ≤ 40)) : PC Tryd.prog 27 [.ag x.cs] (iD 1) := by
  have s1 := size_no x.deep x 1 (Nat.le_refl _) (by omega) (by omega)
  clear hn
  rw [Ex.cs_eq] at *
  refine qAJ Tryd.func27 rfl (by kernel_rfl) mixed (by kernel_rfl) (qle (by kernel_rfl)) Tryd.results27 ?_
  repeat (first | ((first | (with_reducible apply rpGT) | (with_reducible apply drGT) | (with_reducible apply qAP) | (with_reducible apply qAQ)); eq_refl; (first | exact qAy rfl | exact qAx rfl | exact qAv rfl | exact qAw rfl); (first | eq_refl | assumption | decide); (focus repeat' (first | exact trivial | exact id | apply And.intro | (intro h; (first | exact h | (simp only [Bool.and_eq_true] at h; (first | exact h.1 | exact h.1.1 | exact h.1.1.1 | exact h.2)) | (rw [h]; rfl) | (rw [zh, h]; rfl) | simp_all)))); ((first | ((with_reducible apply qAa); eq_refl; eq_refl; exact (s1); eq_refl) | ((with_reducible first | apply qAe | apply qAd); (conv => lhs; whnf)) | ((with_reducible first | apply qAm | apply qA9 | apply qAT | apply qAp) <;> first | ((with_reducible apply tyOk); eq_refl) | eq_refl | exact qle rfl)); (first | exact qAb _ | exact qAk _ _ | exact qAj _ _ _ | exact qAl _ _ _ _))) | (with_reducible first | apply qAt | apply qAs | apply qAr | apply qAn | apply qAM | apply qBm | apply qAX) | ((with_reducible apply rp); first | ((with_reducible apply qAa); eq_refl; eq_refl; exact (s1); eq_refl) | ((with_reducible apply qAe); (conv => lhs; whnf)) | ((with_reducible apply qAd); (conv => lhs; whnf)) | ((with_reducible apply qAm); exact tyOk rfl; (iterate 3 eq_refl); exact qle rfl; eq_refl) | ((with_reducible apply qA9); eq_refl) | ((with_reducible apply qAT); eq_refl; eq_refl)) | ((with_reducible apply rp1); ((with_reducible apply qAp); eq_refl; eq_refl)) | ((with_reducible apply qBs); eq_refl; eq_refl))
  (with_reducible apply qAW); (focus (repeat' (first | (with_reducible apply qAL) | (with_reducible apply qAB) | ((with_reducible apply qA1); eq_refl)))); eq_refl; refine SubD.of_eq ?_
  rfl
abbrev noE : List D := [iD 0, iD 0, iD 0, qD 0, strD .empty, strD .empty, .nl]
theorem size_zero : PC Tryd.prog 45 [.ag noE, iD 1] (.tu [iD 1, bD true]) := by
  refine qAJ Tryd.func45 rfl (by kernel_rfl) mixed (by kernel_rfl) (qle (by kernel_rfl)) Tryd.results45 ?_
  repeat (first | ((first | (with_reducible apply rpGT) | (with_reducible apply drGT) | (with_reducible apply qAP) | (with_reducible apply qAQ)); eq_refl; (first | exact qAy rfl | exact qAx rfl | exact qAv rfl | exact qAw rfl); (first | eq_refl | assumption | decide); (focus repeat' (first | exact trivial | exact id | apply And.intro | (intro h; (first | exact h | (simp only [Bool.and_eq_true] at h; (first | exact h.1 | exact h.1.1 | exact h.1.1.1 | exact h.2)) | (rw [h]; rfl) | (rw [zh, h]; rfl) | simp_all)))); ((first | ((with_reducible first | apply qAe | apply qAd); (conv => lhs; whnf)) | ((with_reducible first | apply qAg | apply qAi | apply qA8 | apply qFc | apply qAp) <;> first | ((with_reducible apply tyOk); eq_refl) | eq_refl | decide)); (first | exact qAb _ | exact qAk _ _ | exact qAj _ _ _ | exact qAl _ _ _ _))) | (with_reducible first | apply qAt | apply qAs | apply qAr | apply qAn | apply qAC | apply qAH) | ((with_reducible apply rp); first | ((with_reducible apply qAe); (conv => lhs; whnf)) | ((with_reducible apply qAd); (conv => lhs; whnf)) | ((with_reducible apply qAg); exact tyOk rfl; eq_refl; eq_refl; decide; eq_refl) | ((with_reducible apply qAi); exact tyOk rfl; (iterate 4 eq_refl)) | ((with_reducible apply qA8); eq_refl; eq_refl) | ((with_reducible apply qFc); exact tyOk rfl; eq_refl; eq_refl)) | ((with_reducible apply rp1); ((with_reducible apply qAp); eq_refl; eq_refl)) | ((with_reducible apply qBr); eq_refl; eq_refl))
  refine qCb (fun m s => m = 0 ∧ s = ⟨[(1, .d (iD 1)), (6, .d (iD 1)), (14, .d .nl), (15, .d (iD 0)), (16, .d (iD 0))], []⟩) _ _ ?_ ⟨rfl, rfl⟩ ?_
  · refine qA5 [] (by repeat' (first | exact qA7 | (refine qAY rfl (by exact SubA.refl _) ?_))) (kpX rfl) rfl (insS rfl) (insX rfl)
  · rintro m s ⟨rfl, rfl⟩
    repeat (first | ((first | (with_reducible apply rpGT) | (with_reducible apply drGT) | (with_reducible apply qAP) | (with_reducible apply qAQ)); eq_refl; (first | exact qAy rfl | exact qAx rfl | exact qAv rfl | exact qAw rfl); (first | eq_refl | assumption | decide); (focus repeat' (first | exact trivial | exact id | apply And.intro | (intro h; (first | exact h | (simp only [Bool.and_eq_true] at h; (first | exact h.1 | exact h.1.1 | exact h.1.1.1 | exact h.2)) | (rw [h]; rfl) | (rw [zh, h]; rfl) | simp_all)))); ((first | ((with_reducible first | apply qAe | apply qAd); (conv => lhs; whnf)) | ((with_reducible apply qA0); eq_refl; eq_refl)); (first | exact qAb _ | exact qAk _ _ | exact qAj _ _ _ | exact qAl _ _ _ _))) | (with_reducible first | apply qAt | apply qAs | apply qAr | apply qAn | apply qCa | apply qB9 | apply qB8 | apply qAM | apply qAX) | ((with_reducible apply rp); first | ((with_reducible apply qAe); (conv => lhs; whnf)) | ((with_reducible apply qAd); (conv => lhs; whnf)) | ((with_reducible apply qA0); eq_refl; eq_refl)) | ((with_reducible apply qBr); eq_refl; eq_refl))
    (with_reducible apply qAW); (focus (repeat' (first | (with_reducible apply qAL) | (with_reducible apply qAB) | ((with_reducible apply qA1); eq_refl)))); eq_refl; refine SubD.of_eq ?_
    rfl
theorem node_zero : PC Tryd.prog 75 [.ag noE] (iD 2) := by
  refine qAJ Tryd.func75 rfl (by kernel_rfl) mixed (by kernel_rfl) (qle (by kernel_rfl)) Tryd.results75 ?_
  repeat (first | ((first | (with_reducible apply rpGT) | (with_reducible apply drGT) | (with_reducible apply qAP) | (with_reducible apply qAQ)); eq_refl; exact qAx rfl; (first | eq_refl | assumption | decide); (focus repeat' (first | exact trivial | exact id | apply And.intro)); ((first | ((with_reducible first | apply qAe | apply qAd); (conv => lhs; whnf)) | ((with_reducible first | apply qBa | apply qAg | apply qAi | apply qA0 | apply qA8 | apply qAp) <;> first | ((with_reducible apply tyOk); eq_refl) | eq_refl | exact id | decide)); (first | exact qAb _ | exact qAk _ _ | exact qAj _ _ _ | exact qAl _ _ _ _))) | (with_reducible first | apply qAt | apply qAs | apply qAr | apply qAn | apply qAM | apply qBm | apply qAX) | ((first | (with_reducible apply rp) | ((with_reducible apply rpG); eq_refl; exact qAx rfl; (focus repeat' (first | exact trivial | exact id | apply And.intro)); intro zg; have zh := zg; (try simp only [zs1, zs2, zs3, zs4] at zg))); first | ((with_reducible first | apply qAe | apply qAd); (conv => lhs; whnf)) | ((with_reducible first | apply qBa | apply qAg | apply qAi | apply qA0 | apply qA8) <;> first | ((with_reducible apply tyOk); eq_refl) | eq_refl | exact id | decide)) | ((with_reducible apply rp1); ((with_reducible apply qAp); eq_refl; eq_refl)) | ((with_reducible apply qBs); eq_refl; eq_refl))
  (with_reducible apply qAW); (focus (repeat' (first | (with_reducible apply qAL) | (with_reducible apply qAB) | ((with_reducible apply qA1); eq_refl)))); eq_refl; refine SubD.of_eq ?_
  rfl
theorem nodes_zero : PC Tryd.prog 46 [.ag noE] (iD 2) := by
  have h := node_zero
  refine qAJ Tryd.func46 rfl (by kernel_rfl) mixed (by kernel_rfl) (qle (by kernel_rfl)) Tryd.results46 ?_
  repeat (first | ((first | (with_reducible apply rpGT) | (with_reducible apply drGT) | (with_reducible apply qAP) | (with_reducible apply qAQ)); eq_refl; (first | exact qAy rfl | exact qAx rfl | exact qAv rfl | exact qAw rfl); (first | eq_refl | assumption | decide); (focus repeat' (first | exact trivial | exact id | apply And.intro | (intro h; (first | exact h | (simp only [Bool.and_eq_true] at h; (first | exact h.1 | exact h.1.1 | exact h.1.1.1 | exact h.2)) | (rw [h]; rfl) | (rw [zh, h]; rfl) | simp_all)))); ((first | ((with_reducible apply qAa); eq_refl; eq_refl; exact (h); eq_refl) | ((with_reducible first | apply qAe | apply qAd); (conv => lhs; whnf)) | ((with_reducible first | apply qAm | apply qA3 | apply qAp) <;> first | ((with_reducible apply tyOk); eq_refl) | eq_refl | exact qle rfl)); (first | exact qAb _ | exact qAk _ _ | exact qAj _ _ _ | exact qAl _ _ _ _))) | (with_reducible first | apply qAt | apply qAs | apply qAr | apply qAn | apply qAM | apply qBm | apply qAX) | ((with_reducible apply rp); first | ((with_reducible apply qAa); eq_refl; eq_refl; exact (h); eq_refl) | ((with_reducible apply qAe); (conv => lhs; whnf)) | ((with_reducible apply qAd); (conv => lhs; whnf)) | ((with_reducible apply qAm); exact tyOk rfl; (iterate 3 eq_refl); exact qle rfl; eq_refl) | ((with_reducible apply qA3); eq_refl; eq_refl)) | ((with_reducible apply rp1); ((with_reducible apply qAp); eq_refl; eq_refl)) | ((with_reducible apply qBs); eq_refl; eq_refl))
  (with_reducible apply qAW); (focus (repeat' (first | (with_reducible apply qAL) | (with_reducible apply qAB) | ((with_reducible apply qA1); eq_refl)))); eq_refl; refine SubD.of_eq ?_
  rfl
theorem check_zero : PC Tryd.prog 27 [.ag noE] (iD 2) := by
  have h1 := size_zero
  have h2 := nodes_zero
  refine qAJ Tryd.func27 rfl (by kernel_rfl) mixed (by kernel_rfl) (qle (by kernel_rfl)) Tryd.results27 ?_
  repeat (first | ((first | (with_reducible apply rpGT) | (with_reducible apply drGT) | (with_reducible apply qAP) | (with_reducible apply qAQ)); eq_refl; (first | exact qAy rfl | exact qAx rfl | exact qAv rfl | exact qAw rfl); (first | eq_refl | assumption | decide); (focus repeat' (first | exact trivial | exact id | apply And.intro | (intro h; (first | exact h | (simp only [Bool.and_eq_true] at h; (first | exact h.1 | exact h.1.1 | exact h.1.1.1 | exact h.2)) | (rw [h]; rfl) | (rw [zh, h]; rfl) | simp_all)))); ((first | ((with_reducible apply qAa); eq_refl; eq_refl; (first | exact (h1) | exact (h2)); eq_refl) | ((with_reducible first | apply qAe | apply qAd); (conv => lhs; whnf)) | ((with_reducible first | apply qAm | apply qA9 | apply qAT | apply qAp) <;> first | ((with_reducible apply tyOk); eq_refl) | eq_refl | exact qle rfl)); (first | exact qAb _ | exact qAk _ _ | exact qAj _ _ _ | exact qAl _ _ _ _))) | (with_reducible first | apply qAt | apply qAs | apply qAr | apply qAn | apply qAM | apply qAX | apply qAH) | ((with_reducible apply rp); first | ((with_reducible apply qAa); eq_refl; eq_refl; exact (h1); eq_refl) | ((with_reducible apply qAa); eq_refl; eq_refl; exact (h2); eq_refl) | ((with_reducible apply qAe); (conv => lhs; whnf)) | ((with_reducible apply qAd); (conv => lhs; whnf)) | ((with_reducible apply qAm); exact tyOk rfl; (iterate 3 eq_refl); exact qle rfl; eq_refl) | ((with_reducible apply qA9); eq_refl) | ((with_reducible apply qAT); eq_refl; eq_refl)) | ((with_reducible apply rp1); ((with_reducible apply qAp); eq_refl; eq_refl)) | ((with_reducible apply qBr); eq_refl; eq_refl))
  (with_reducible apply qAW); (focus (repeat' (first | (with_reducible apply qAL) | (with_reducible apply qAB) | ((with_reducible apply qA1); eq_refl)))); eq_refl; refine SubD.of_eq ?_
  rfl
end Go.Proofs.YtlpnnnmdkglkcaaDoor

