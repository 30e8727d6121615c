/-
  expr.size, Check of an expression that is too large. No condition.
-/
import Derived.Test.YtlpnnnmdkglkcaaDoorZX
import Derived.Test.YtlpnnnmdkglkcaaDoorZParseE
set_option linter.unusedSimpArgs false
set_option linter.unusedVariables false
namespace Go.Proofs.YtlpnnnmdkglkcaaDoor
open Go.RowKit

theorem deep_le {x : Ex} {m : Nat} (h : ∀ a ∈ x.args, a.deep ≤ m) : x.deep ≤ m + 1 := by
  cases x with
  | lit v => show (1 : Nat) ≤ _; omega
  | col n => show (1 : Nat) ≤ _; omega
  | un op a => have := h a (by simp [Ex.args]); simp only [Ex.deep]; omega
  | bi op a b =>
    have h1 := h a (by simp [Ex.args])
    have h2 := h b (by simp [Ex.args])
    simp only [Ex.deep]; omega
set_option maxHeartbeats 1000000 in
theorem size_no : ∀ (f : Nat) (x : Ex) (d : Nat), x.deep ≤ f → d ≤ 8 → ¬ (d + x.deep ≤ 8 ∧ x.num ≤ 40) → PC Tryd.prog 45 [.ag x.cs, iD d] (.tu [iD 0, bD false])
  | 0, x, d, hf, _, _ => absurd hf (by have := x.deep_pos; omega)
  | f + 1, x, d, hf, hd8, hn => by
    have ih := size_no f
    have hdp := fun a => Ex.deep_arg (x := x) (a := a)
    have hxp := x.deep_pos
    have hnum := x.num_eq
    have hal := x.args_len
    have hn2 : ¬ ((∀ a ∈ x.args, d + 1 + a.deep ≤ 8) ∧ d ≤ 7 ∧ 1 + numL x.args ≤ 40) := fun ⟨h1, h3, h2⟩ => hn ⟨by
      have := deep_le (x := x) (m := 7 - d) fun a ha => by have := h1 a ha; omega
      omega, by omega⟩
    rw [Ex.cs_eq]
    clear hn hnum
    generalize x.op = op
    generalize x.val = v
    generalize x.nam = nm
    generalize x.args = l at *
    refine qAS Tryd.func45 rfl (by kernel_rfl) mixed (by kernel_rfl) (qle (by kernel_rfl)) Tryd.results45 ?_
    repeat (first | ((first | (with_reducible apply rpGT) | (with_reducible apply drGT) | (with_reducible apply qAR) | (with_reducible apply qAQ)); eq_refl; (first | exact qAE rfl | exact qAu rfl | exact qAy rfl | exact qAw rfl); (first | eq_refl | assumption | decide); (focus repeat' (first | exact trivial | exact id | apply And.intro | (intro h; (first | exact h | (simp only [Bool.and_eq_true] at h; (first | exact h.1 | exact h.1.1 | exact h.1.1.1 | exact h.2)) | (rw [h]; rfl) | (rw [zh, h]; rfl) | simp_all)))); ((first | ((with_reducible first | apply qAe | apply qAd); (conv => lhs; whnf)) | ((with_reducible first | apply qBm | apply qAv) <;> eq_refl)); (first | exact qAb _ | exact qAm _ _ | exact qAk _ _ _ | exact qAl _ _ _ _))) | (with_reducible first | apply qAr | apply qAq | apply qAp | apply qAj) | ((with_reducible apply rp); first | ((with_reducible apply qAe); (conv => lhs; whnf)) | ((with_reducible apply qAd); (conv => lhs; whnf)) | ((with_reducible apply qBm); eq_refl; eq_refl)) | ((with_reducible apply rp1); ((with_reducible apply qAv); eq_refl; eq_refl)))
    refine qAx rfl (fun hd => ?_) (fun hd => ?_)
    · clear hd
      repeat (first | ((first | (with_reducible apply rpGT) | (with_reducible apply drGT) | (with_reducible apply qAR) | (with_reducible apply qAQ)); eq_refl; (first | exact qAE rfl | exact qAu rfl | exact qAy rfl | exact qAw rfl); (first | eq_refl | assumption | decide); (focus repeat' (first | exact trivial | exact id | apply And.intro | (intro h; (first | exact h | (simp only [Bool.and_eq_true] at h; (first | exact h.1 | exact h.1.1 | exact h.1.1.1 | exact h.2)) | (rw [h]; rfl) | (rw [zh, h]; rfl) | simp_all)))); ((first | ((with_reducible apply qAd); (conv => lhs; whnf))); (first | exact qAb _ | exact qAm _ _ | exact qAk _ _ _ | exact qAl _ _ _ _))) | (with_reducible first | apply qAr | apply qAq | apply qAp | apply qAj | apply qAK | apply qBg | apply qA9) | ((with_reducible apply rp); ((with_reducible apply qAd); (conv => lhs; whnf))))
      (with_reducible apply qA8); (focus (repeat' (first | (with_reducible apply qAJ) | (with_reducible apply qAD) | ((with_reducible apply qBb); eq_refl)))); eq_refl; refine SubD.of_eq ?_
      rfl
    · have hd7 : d ≤ 7 := by simp at hd; omega
      clear hd
      repeat (first | ((first | (with_reducible apply rpGT) | (with_reducible apply drGT) | (with_reducible apply qAR) | (with_reducible apply qAQ)); eq_refl; (first | exact qAE rfl | exact qAu rfl | exact qAy rfl | exact qAw rfl); (first | eq_refl | assumption | decide); (focus repeat' (first | exact trivial | exact id | apply And.intro | (intro h; (first | exact h | (simp only [Bool.and_eq_true] at h; (first | exact h.1 | exact h.1.1 | exact h.1.1.1 | exact h.2)) | (rw [h]; rfl) | (rw [zh, h]; rfl) | simp_all)))); ((first | ((with_reducible first | apply qAe | apply qAd); (conv => lhs; whnf)) | ((with_reducible first | apply qAg | apply qAi | apply qAB) <;> first | ((with_reducible apply tyOk); eq_refl) | eq_refl | decide)); (first | exact qAb _ | exact qAm _ _ | exact qAk _ _ _ | exact qAl _ _ _ _))) | (with_reducible first | apply qAr | apply qAq | apply qAp | apply qAj | apply qAA | apply qAF) | ((with_reducible apply rp); first | ((with_reducible apply qAe); (conv => lhs; whnf)) | ((with_reducible apply qAd); (conv => lhs; whnf)) | ((with_reducible apply qAg); exact tyOk rfl; eq_refl; eq_refl; decide; eq_refl) | ((with_reducible apply qAi); exact tyOk rfl; (iterate 4 eq_refl)) | ((with_reducible apply qAB); exact tyOk rfl; eq_refl; eq_refl)))
      refine qCh (fun m s => ∃ k, k ≤ l.length ∧ (∀ a ∈ l.take k, d + 1 + a.deep ≤ 8) ∧ 1 + numL (l.take k) ≤ 40 ∧ m = l.length - k ∧ s = ⟨[(1, .d (iD d)), (6, .d (iD (1 + numL (l.take k) : Nat))), (14, .d (argsD l)), (15, .d (iD l.length)), (16, .d (iD k))], []⟩) _ _ ?_ ⟨0, by omega, fun a ha => by simp at ha, by simp [numL], rfl, rfl⟩ ?_
      · refine qA7 [] (by repeat' (first | exact qAX | (refine qAN rfl (by exact SubA.refl _) ?_))) (kpX rfl) rfl (insS rfl) (insX rfl)
      · rintro m s ⟨k, hk, hfit, hq, rfl, rfl⟩
        repeat (first | ((first | (with_reducible apply rpGT) | (with_reducible apply drGT) | (with_reducible apply qAR) | (with_reducible apply qAQ)); eq_refl; (first | exact qAE rfl | exact qAu rfl | exact qAy rfl | exact qAw rfl); (first | eq_refl | assumption | decide); (focus repeat' (first | exact trivial | exact id | apply And.intro | (intro h; (first | exact h | (simp only [Bool.and_eq_true] at h; (first | exact h.1 | exact h.1.1 | exact h.1.1.1 | exact h.2)) | (rw [h]; rfl) | (rw [zh, h]; rfl) | simp_all)))); ((first | ((with_reducible apply qA0); eq_refl; eq_refl)); (first | exact qAb _ | exact qAm _ _ | exact qAk _ _ _ | exact qAl _ _ _ _))) | (with_reducible first | apply qAr | apply qAq | apply qAp | apply qAj) | ((with_reducible apply rp); ((with_reducible apply qA0); eq_refl; eq_refl)))
        refine qAx rfl (fun hd => ?_) (fun hd => ?_)
        · have hlt : k < l.length := by simp at hd; omega
          clear hd
          obtain ⟨a, ha⟩ : ∃ a, l[k]? = some a := ⟨_, List.getElem?_eq_getElem hlt⟩
          have ha2 : (l.map Ex.cs)[k]? = some a.cs := by rw [List.getElem?_map, ha]; rfl
          have hm := hdp a (List.mem_of_getElem? ha)
          have ht : numL (l.take (k + 1)) = numL (l.take k) + a.num := by rw [List.take_add_one, ha, numL_app]; rfl
          have hcl := a.cs_eq
          by_cases hfa : d + 1 + a.deep ≤ 8 ∧ a.num ≤ 40
          · have p1 := size_pc a.deep a (d + 1) (Nat.le_refl _) (by omega) hfa.2
            have han := hfa.2
            have hfit2 : ∀ b ∈ l.take (k + 1), d + 1 + b.deep ≤ 8 := fun b hb => by
              rw [List.take_add_one, ha] at hb
              rcases List.mem_append.1 hb with hb | hb
              · exact hfit b hb
              · have : b = a := by simpa using hb
                rw [this]; exact hfa.1
            clear hfa hfit hm
            generalize a.num = an at *
            generalize numL (l.take k) = q at *
            generalize a.cs = acs at *
            subst hcl
            repeat (first | ((first | (with_reducible apply rpGT) | (with_reducible apply drGT) | (with_reducible apply qAR) | (with_reducible apply qAQ)); eq_refl; exact qAu rfl; (first | eq_refl | assumption | decide); (focus repeat' (first | exact trivial | apply And.intro)); ((first | ((with_reducible apply qAc); eq_refl; eq_refl; exact (p1); eq_refl) | ((with_reducible first | apply qAe | apply qAd); (conv => lhs; whnf)) | ((with_reducible first | apply qAU | apply qAn | apply qBm | apply qBc | apply qA3 | apply qAh | apply qAf) <;> first | ((with_reducible apply tyOk); eq_refl) | eq_refl | exact qle rfl | exact trivial) | ((with_reducible apply qAo); exact tyOk rfl; eq_refl; eq_refl; assumption; eq_refl) | ((with_reducible apply qAz); exact tyOk rfl; eq_refl; exact tyOk rfl; (iterate 4 eq_refl); (simp only [List.length_map, List.length_append, List.length_cons, List.length_nil] at *; omega)) | ((with_reducible apply qAV); eq_refl; eq_refl; omega; omega)); (first | exact qAb _ | exact qAm _ _ | exact qAk _ _ _ | exact qAl _ _ _ _))) | (with_reducible first | apply qAr | apply qAq | apply qAp | apply qAj | apply qAA | apply qAF) | ((with_reducible apply rp); first | ((with_reducible apply qAc); eq_refl; eq_refl; exact (p1); eq_refl) | ((with_reducible apply qAe); (conv => lhs; whnf)) | ((with_reducible apply qAd); (conv => lhs; whnf)) | ((with_reducible apply qAU); (iterate 3 eq_refl); exact trivial) | ((with_reducible apply qAn); exact tyOk rfl; (iterate 3 eq_refl); exact qle rfl; eq_refl) | ((with_reducible apply qAo); exact tyOk rfl; eq_refl; eq_refl; assumption; eq_refl) | ((with_reducible apply qAz); exact tyOk rfl; eq_refl; exact tyOk rfl; (iterate 4 eq_refl); (simp only [List.length_map, List.length_append, List.length_cons, List.length_nil] at *; omega)) | ((with_reducible apply qBm); eq_refl; eq_refl) | ((with_reducible apply qAV); eq_refl; eq_refl; omega; omega) | ((with_reducible apply qBc); eq_refl) | ((with_reducible apply qA3); eq_refl; eq_refl)) | ((with_reducible apply rp1); ((with_reducible apply qAh); exact tyOk rfl; eq_refl)) | ((with_reducible apply rpN); ((with_reducible apply qAf); exact tyOk rfl; (iterate 5 eq_refl))))
            refine qAx rfl (fun hd => ?_) (fun hd => ?_)
            · clear hd
              repeat (first | ((first | (with_reducible apply rpGT) | (with_reducible apply drGT) | (with_reducible apply qAR) | (with_reducible apply qAQ)); eq_refl; (first | exact qAE rfl | exact qAu rfl | exact qAy rfl | exact qAw rfl); (first | eq_refl | assumption | decide); (focus repeat' (first | exact trivial | exact id | apply And.intro | (intro h; (first | exact h | (simp only [Bool.and_eq_true] at h; (first | exact h.1 | exact h.1.1 | exact h.1.1.1 | exact h.2)) | (rw [h]; rfl) | (rw [zh, h]; rfl) | simp_all)))); ((first | ((with_reducible apply qAd); (conv => lhs; whnf))); (first | exact qAb _ | exact qAm _ _ | exact qAk _ _ _ | exact qAl _ _ _ _))) | (with_reducible first | apply qAr | apply qAq | apply qAp | apply qAj | apply qAK | apply qBg | apply qBw | apply qA9) | ((with_reducible apply rp); ((with_reducible apply qAd); (conv => lhs; whnf))))
              (with_reducible apply qA8); (focus (repeat' (first | (with_reducible apply qAJ) | (with_reducible apply qAD) | ((with_reducible apply qBb); eq_refl)))); eq_refl; refine SubD.of_eq ?_
              rfl
            · have hle : 1 + q + an ≤ 40 := by simp at hd; omega
              clear hd
              repeat (first | ((first | (with_reducible apply rpGT) | (with_reducible apply drGT) | (with_reducible apply qAR) | (with_reducible apply qAQ)); eq_refl; (first | exact qAE rfl | exact qAu rfl | exact qAy rfl | exact qAw rfl); (first | eq_refl | assumption | decide); (focus repeat' (first | exact trivial | exact id | apply And.intro | (intro h; (first | exact h | (simp only [Bool.and_eq_true] at h; (first | exact h.1 | exact h.1.1 | exact h.1.1.1 | exact h.2)) | (rw [h]; rfl) | (rw [zh, h]; rfl) | simp_all)))); ((first | ((with_reducible apply qAe); (conv => lhs; whnf)) | ((with_reducible apply qAV); eq_refl; eq_refl; omega; omega)); (first | exact qAb _ | exact qAm _ _ | exact qAk _ _ _ | exact qAl _ _ _ _))) | (with_reducible first | apply qAq | apply qAp | apply qAj | apply qA4 | apply qAF) | ((with_reducible apply rp); first | ((with_reducible apply qAe); (conv => lhs; whnf)) | ((with_reducible apply qAV); eq_refl; eq_refl; omega; omega)))
              refine ⟨_, _, ?_, ?_, k + 1, by omega, hfit2, by omega, rfl, rfl⟩
              · omega
              · rw [ht, ← Nat.add_assoc]
                refine qA7 [] (by repeat' (first | exact qAX | (refine qAN rfl (by exact SubA.refl _) ?_))) (kpX rfl) rfl (insS rfl) (insX rfl)
          · have p1 := ih a (d + 1) (by omega) (by omega) hfa
            clear hfa hfit hm
            generalize a.num = an at *
            generalize numL (l.take k) = q at *
            generalize a.cs = acs at *
            subst hcl
            repeat (first | ((first | (with_reducible apply rpGT) | (with_reducible apply drGT) | (with_reducible apply qAR) | (with_reducible apply qAQ)); eq_refl; exact qAu rfl; (first | eq_refl | assumption | decide); (focus repeat' (first | exact trivial | exact id | apply And.intro)); ((first | ((with_reducible apply qAc); eq_refl; eq_refl; exact (p1); eq_refl) | ((with_reducible first | apply qAe | apply qAd); (conv => lhs; whnf)) | ((with_reducible first | apply qAU | apply qAn | apply qBm | apply qBc | apply qA3 | apply qAh | apply qAf) <;> first | ((with_reducible apply tyOk); eq_refl) | eq_refl | exact qle rfl | exact id) | ((with_reducible apply qAo); exact tyOk rfl; eq_refl; eq_refl; assumption; eq_refl) | ((with_reducible apply qAz); exact tyOk rfl; eq_refl; exact tyOk rfl; (iterate 4 eq_refl); (simp only [List.length_map, List.length_append, List.length_cons, List.length_nil] at *; omega)) | ((with_reducible apply qAV); eq_refl; eq_refl; omega; omega)); (first | exact qAb _ | exact qAm _ _ | exact qAk _ _ _ | exact qAl _ _ _ _))) | (with_reducible first | apply qAr | apply qAq | apply qAp | apply qAj | apply qAA | apply qAF) | ((first | (with_reducible apply rp) | ((with_reducible apply rpG); eq_refl; exact qAu rfl; (focus repeat' (first | exact trivial | exact id | apply And.intro)); intro zg; have zh := zg; (try simp only [zs1, zs2, zs3, zs4] at zg))); first | ((with_reducible apply qAc); eq_refl; eq_refl; exact (p1); eq_refl) | ((with_reducible first | apply qAe | apply qAd); (conv => lhs; whnf)) | ((with_reducible first | apply qAU | apply qAn | apply qBm | apply qBc | apply qA3) <;> first | ((with_reducible apply tyOk); eq_refl) | eq_refl | exact qle rfl | exact id) | ((with_reducible apply qAo); exact tyOk rfl; eq_refl; eq_refl; assumption; eq_refl) | ((with_reducible apply qAz); exact tyOk rfl; eq_refl; exact tyOk rfl; (iterate 4 eq_refl); (simp only [List.length_map, List.length_append, List.length_cons, List.length_nil] at *; omega)) | ((with_reducible apply qAV); eq_refl; eq_refl; omega; omega)) | ((with_reducible apply rp1); ((with_reducible apply qAh); exact tyOk rfl; eq_refl)) | ((with_reducible apply rpN); ((with_reducible apply qAf); exact tyOk rfl; (iterate 5 eq_refl))))
            refine qAx rfl (fun hd => ?_) (fun hd => absurd hd (by simp))
            clear hd
            repeat (first | ((first | (with_reducible apply rpGT) | (with_reducible apply drGT) | (with_reducible apply qAR) | (with_reducible apply qAQ)); eq_refl; (first | exact qAE rfl | exact qAu rfl | exact qAy rfl | exact qAw rfl); (first | eq_refl | assumption | decide); (focus repeat' (first | exact trivial | exact id | apply And.intro | (intro h; (first | exact h | (simp only [Bool.and_eq_true] at h; (first | exact h.1 | exact h.1.1 | exact h.1.1.1 | exact h.2)) | (rw [h]; rfl) | (rw [zh, h]; rfl) | simp_all)))); ((first | ((with_reducible apply qAd); (conv => lhs; whnf))); (first | exact qAb _ | exact qAm _ _ | exact qAk _ _ _ | exact qAl _ _ _ _))) | (with_reducible first | apply qAr | apply qAq | apply qAp | apply qAj | apply qAK | apply qBg | apply qBw | apply qA9) | ((with_reducible apply rp); ((with_reducible apply qAd); (conv => lhs; whnf))))
            (with_reducible apply qA8); (focus (repeat' (first | (with_reducible apply qAJ) | (with_reducible apply qAD) | ((with_reducible apply qBb); eq_refl)))); eq_refl; refine SubD.of_eq ?_
            rfl
        · have hke : k = l.length := by simp at hd; omega
          clear hd
          subst hke
          rw [List.take_length] at hfit hq
          exact absurd ⟨hfit, hd7, hq⟩ hn2
theorem check_no (x : Ex) (hn : ¬ (x.deep ≤ 7 ∧ x.num ≤ 40)) : PC Tryd.prog 27 [.ag x.cs] (iD 1) := by
  have s1 := size_no x.deep x 1 (Nat.le_refl _) (by omega) (by omega)
  clear hn
  rw [Ex.cs_eq] at *
  refine qAS Tryd.func27 rfl (by kernel_rfl) mixed (by kernel_rfl) (qle (by kernel_rfl)) Tryd.results27 ?_
  repeat (first | ((first | (with_reducible apply rpGT) | (with_reducible apply drGT) | (with_reducible apply qAR) | (with_reducible apply qAQ)); eq_refl; (first | exact qAE rfl | exact qAu rfl | exact qAy rfl | exact qAw rfl); (first | eq_refl | assumption | decide); (focus repeat' (first | exact trivial | exact id | apply And.intro | (intro h; (first | exact h | (simp only [Bool.and_eq_true] at h; (first | exact h.1 | exact h.1.1 | exact h.1.1.1 | exact h.2)) | (rw [h]; rfl) | (rw [zh, h]; rfl) | simp_all)))); ((first | ((with_reducible apply qAc); eq_refl; eq_refl; exact (s1); eq_refl) | ((with_reducible first | apply qAe | apply qAd); (conv => lhs; whnf)) | ((with_reducible first | apply qAn | apply qBc | apply qA3 | apply qAv) <;> first | ((with_reducible apply tyOk); eq_refl) | eq_refl | exact qle rfl)); (first | exact qAb _ | exact qAm _ _ | exact qAk _ _ _ | exact qAl _ _ _ _))) | (with_reducible first | apply qAr | apply qAq | apply qAp | apply qAj | apply qAK | apply qBg | apply qA9) | ((with_reducible apply rp); first | ((with_reducible apply qAc); eq_refl; eq_refl; exact (s1); eq_refl) | ((with_reducible apply qAe); (conv => lhs; whnf)) | ((with_reducible apply qAd); (conv => lhs; whnf)) | ((with_reducible apply qAn); exact tyOk rfl; (iterate 3 eq_refl); exact qle rfl; eq_refl) | ((with_reducible apply qBc); eq_refl) | ((with_reducible apply qA3); eq_refl; eq_refl)) | ((with_reducible apply rp1); ((with_reducible apply qAv); eq_refl; eq_refl)) | ((with_reducible apply qBK); eq_refl; eq_refl))
  (with_reducible apply qA8); (focus (repeat' (first | (with_reducible apply qAJ) | (with_reducible apply qAD) | ((with_reducible apply qBb); eq_refl)))); eq_refl; refine SubD.of_eq ?_
  rfl
abbrev noE : List D := [iD 0, iD 0, iD 0, qD 0, strD .empty, strD .empty, .nl]
end Go.Proofs.YtlpnnnmdkglkcaaDoor


/-
  What is read is shown in at most as many tokens, and may be; reading comes to an end. No program in sight.
-/
namespace Go.Proofs.YtlpnnnmdkglkcaaDoor

theorem shw_mono (x : Ex) {k l : Nat} (h : k ≤ l) : (shw x k).length ≤ (shw x l).length := by
  unfold shw qCf
  by_cases h1 : lvl x.op < k
  · rw [if_pos h1, if_pos (by omega)]
    exact Nat.le_refl _
  · rw [if_neg h1]
    split
    · rw [List.length_cons, List.length_append]; omega
    · exact Nat.le_refl _
theorem qFz {x : Ex} {k : Nat} (h : k ≤ lvl x.op) : shw x k = shwB x := if_neg (by omega)
def qDP (T : List Tk) (lv i : Nat) : Pr → Prop
  | .ok x j => i + (shw x lv).length ≤ j ∧ j ≤ T.length ∧ x.ok
  | .bad p e => p ≤ T.length ∧ (e = 3 ∨ e = 4)
  | .out => True
theorem qEF {T : List Tk} {lv i p : Nat} (h : p ≤ T.length) : qDP T lv i (qEW T p) := by
  refine ⟨h, ?_⟩
  split
  · exact .inr rfl
  · exact .inl rfl
theorem qFn {T : List Tk} {p : Nat} : qEW T p ≠ .out := by unfold qEW; simp
theorem qDc {T : List Tk} {lv i p : Nat} {t : Tk} {K : Nat → Pr} (h : p ≤ T.length) (hK : p + 1 ≤ T.length → qDP T lv i (K (p + 1)) ) : qDP T lv i (qDT T t p K) := by
  unfold qDT
  split
  · rename_i ht
    exact hK (List.getElem?_eq_some_iff.1 ht).1
  · exact qEF h
theorem qDF {T : List Tk} {p : Nat} {t : Tk} {K : Nat → Pr} (hK : p + 1 ≤ T.length → K (p + 1) ≠ .out) : qDT T t p K ≠ .out := by
  unfold qDT
  split
  · rename_i ht
    exact hK (List.getElem?_eq_some_iff.1 ht).1
  · exact qFn
theorem qCE {T : List Tk} {lv i lv' i' : Nat} {r : Pr} {f : Ex → Nat → Pr} (h : qDP T lv' i' r) (hf : ∀ e k, i' + (shw e lv').length ≤ k → k ≤ T.length → e.ok → qDP T lv i (f e k)) : qDP T lv i (r.then f) := by
  cases r with
  | ok e k => exact hf e k h.1 h.2.1 h.2.2
  | bad p e => exact h
  | out => trivial
theorem qC1 {T : List Tk} {lv' i' : Nat} {r : Pr} {f : Ex → Nat → Pr} (h : qDP T lv' i' r) (hr : r ≠ .out) (hf : ∀ e k, i' + (shw e lv').length ≤ k → k ≤ T.length → e.ok → f e k ≠ .out) : r.then f ≠ .out := by
  cases r with
  | ok e k => exact hf e k h.1 h.2.1 h.2.2
  | bad p e => simp [Pr.then]
  | out => exact absurd rfl hr
theorem pick_get {T : List Tk} {k op : Nat} : ∀ {ops : List Nat}, qCs T ops k = some op → op ∈ ops ∧ k + 1 ≤ T.length
  | o :: l, h => by
    unfold qCs at h
    split at h
    · rename_i ht
      injection h with h
      subst h
      exact ⟨List.mem_cons_self, (List.getElem?_eq_some_iff.1 ht).1⟩
    · obtain ⟨h1, h2⟩ := pick_get h
      exact ⟨List.mem_cons_of_mem _ h1, h2⟩
theorem qFk {T : List Tk} {next : Nat → Pr} {L i : Nat} (hc : qEw L) (hn : ∀ p, p ≤ T.length → qDP T (L + 1) p (next p)) : ∀ (g : Nat) (e : Ex) (k : Nat), k ≤ T.length → e.ok → i + (shw e L).length ≤ k →
    qDP T L i (chn T next (opsL L) g e k) ∧ (T.length - k < g → (∀ p, k ≤ p → p ≤ T.length → next p ≠ .out) → chn T next (opsL L) g e k ≠ .out)
  | 0, e, k, _, _, _ => ⟨trivial, fun h => by omega⟩
  | g + 1, e, k, hk, he, hs => by
    unfold chn
    cases hp : qCs T (opsL L) k with
    | none => exact ⟨⟨hs, hk, he⟩, fun _ _ => by simp⟩
    | some op =>
      obtain ⟨hm, hlt⟩ := pick_get hp
      obtain ⟨o1, o2, o3⟩ := (opsL_mem hc).1 hm
      have hg := hn (k + 1) hlt
      have hstep : ∀ e2 k2, k + 1 + (shw e2 (L + 1)).length ≤ k2 → i + (shw (.bi op e e2) L).length ≤ k2 := fun e2 k2 h => by
        have hl4 : qDk (lvl op) = lvl op := by unfold qDk; rw [o3]; unfold qEw at hc; rw [if_neg (by omega)]
        have : shw (.bi op e e2) L = shw e L ++ qCr op :: shw e2 (L + 1) := by
          rw [qFz (by show L ≤ lvl op; omega)]
          unfold shwB
          rw [if_neg o2, hl4, o3]
          rfl
        rw [this, List.length_append, List.length_cons]
        omega
      refine ⟨qCE hg fun e2 k2 h1 h2 h3 => (qFk hc hn g (.bi op e e2) k2 h2 ⟨o1, he, h3⟩ (hstep e2 k2 h1)).1, fun hgg hno => ?_⟩
      refine qC1 hg (hno (k + 1) (by omega) hlt) fun e2 k2 h1 h2 h3 => ?_
      have := List.length_pos_iff.2 (wrap_ne e2.op (L + 1) (shwB_ne e2))
      have : 0 < (shw e2 (L + 1)).length := this
      exact (qFk hc hn g (.bi op e e2) k2 h2 ⟨o1, he, h3⟩ (hstep e2 k2 h1)).2 (by omega) fun p hp1 hp2 => hno p (by omega) hp2
theorem chain_good {T : List Tk} {next : Nat → Pr} {L i : Nat} (hc : qEw L) (hi : i ≤ T.length) (hn : ∀ p, p ≤ T.length → qDP T (L + 1) p (next p)) : qDP T L i (qCl T next (opsL L) i) ∧ ((∀ p, i ≤ p → p ≤ T.length → next p ≠ .out) → qCl T next (opsL L) i ≠ .out) := by
  unfold qCl
  have hg := hn i hi
  have hstep : ∀ e k, i + (shw e (L + 1)).length ≤ k → i + (shw e L).length ≤ k := fun e k h => by
    have := shw_mono e (k := L) (l := L + 1) (by omega)
    omega
  refine ⟨qCE hg fun e k h1 h2 h3 => (qFk hc hn _ e k h2 h3 (hstep e k h1)).1, fun hno => qC1 hg (hno i (Nat.le_refl _) hi) fun e k h1 h2 h3 => (qFk (i := i) hc hn _ e k h2 h3 (hstep e k h1)).2 (by omega) fun p hp1 hp2 => hno p (by omega) hp2⟩
theorem qD1 {T : List Tk} {i : Nat} {v : Vl} (h : i + 1 ≤ T.length) (hv : Gd v) (h0 : 0 ≤ v.n) : qDP T 9 i (.ok (.lit v) (i + 1)) := ⟨Nat.le_refl _, h, hv, h0⟩
theorem rd_good (T : List Tk) (hok : ∀ t ∈ T, TkOk t) : ∀ (f lv i : Nat), 1 ≤ lv → lv ≤ 9 → i ≤ T.length → qDP T lv i (rd T f lv i) ∧ (10 * (T.length + 1 - i) + (10 - lv) ≤ f → rd T f lv i ≠ .out)
  | 0, lv, i, _, _, _ => ⟨trivial, fun h => by omega⟩
  | f + 1, lv, i, h1, h9, hi => by
    have ih := rd_good T hok f
    show qDP T lv i (stepT T (rd T f) lv i) ∧ (_ → stepT T (rd T f) lv i ≠ .out)
    by_cases hc : qEw lv
    · rw [step_chain T _ hc]
      have h8 : lv + 1 ≤ 9 := by unfold qEw at hc; omega
      obtain ⟨q1, q2⟩ := chain_good hc hi (fun p hp => (ih (lv + 1) p (by omega) h8 hp).1)
      exact ⟨q1, fun hf => q2 fun p hp1 hp2 => (ih (lv + 1) p (by omega) h8 hp2).2 (by omega)⟩
    · have hcase : (lv = 3 ∨ lv = 8) ∨ lv = 4 ∨ lv = 9 := by unfold qEw at hc; omega
      rcases hcase with h38 | rfl | rfl
      · obtain ⟨op, t, hop, hst, hlv⟩ : ∃ op t, un1 op ∧ stepT T (rd T f) lv i = preT T t op (rd T f lv) (rd T f (lv + 1)) i ∧ ∀ e, (shw (.un op e) lv).length = 1 + (shw e lv).length := by
          rcases h38 with rfl | rfl
          · exact ⟨4, notW, .inr (.inl rfl), rfl, fun e => by rw [qFz (by show 3 ≤ lvl 4; decide)]; show (notW :: shw e 3).length = _; rw [List.length_cons]; omega⟩
          · exact ⟨3, mnT, .inl rfl, rfl, fun e => by rw [qFz (by show 8 ≤ lvl 3; decide)]; show (mnT :: shw e 8).length = _; rw [List.length_cons]; omega⟩
        rw [hst]
        unfold preT
        split
        · rename_i ht
          have hlt : i + 1 ≤ T.length := (List.getElem?_eq_some_iff.1 ht).1
          obtain ⟨g1, g2⟩ := ih lv (i + 1) h1 h9 hlt
          exact ⟨qCE g1 fun e k a b c => ⟨by rw [hlv]; omega, b, hop, c⟩, fun hf => qC1 g1 (g2 (by omega)) fun e k _ _ _ => by simp⟩
        · obtain ⟨g1, g2⟩ := ih (lv + 1) i (by omega) (by omega) hi
          refine ⟨?_, fun hf => g2 (by omega)⟩
          cases hr : rd T f (lv + 1) i with
          | ok x j =>
            rw [hr] at g1
            have := shw_mono x (k := lv) (l := lv + 1) (by omega)
            exact ⟨by have := g1.1; omega, g1.2⟩
          | bad p e => rw [hr] at g1; exact g1
          | out => trivial
      · show qDP T 4 i (cmpT' T (rd T f 5) i) ∧ (_ → cmpT' T (rd T f 5) i ≠ .out)
        unfold cmpT'
        obtain ⟨g1, g2⟩ := ih 5 i (by omega) (by omega) hi
        have hin : ∀ e j, i + (shw e 5).length ≤ j → j ≤ T.length → e.ok → qDP T 4 i (if T[j]? = some isW then qDT T qDt (j + 1) fun j => .ok (.un 17 e) j else match qCs T qDr j with | none => .ok e j | some op => (rd T f 5 (j + 1)).then fun e2 k => .ok (.bi op e e2) k) ∧
            (10 * (T.length + 1 - i) + (10 - 4) ≤ f + 1 → (if T[j]? = some isW then qDT T qDt (j + 1) fun j => .ok (.un 17 e) j else match qCs T qDr j with | none => .ok e j | some op => (rd T f 5 (j + 1)).then fun e2 k => .ok (.bi op e e2) k) ≠ .out) := by
          intro e j a b c
          split
          · rename_i ht
            have hlt : j + 1 ≤ T.length := (List.getElem?_eq_some_iff.1 ht).1
            refine ⟨qDc hlt fun h2 => ⟨?_, h2, .inr (.inr (.inl rfl)), c⟩, fun _ => qDF fun _ => by simp⟩
            rw [qFz (by show 4 ≤ lvl 17; decide)]
            show i + (shw e 5 ++ [isW, qDt]).length ≤ _
            rw [List.length_append]
            show i + ((shw e 5).length + 2) ≤ _
            omega
          · cases hp : qCs T qDr j with
            | none =>
              have := shw_mono e (k := 4) (l := 5) (by omega)
              exact ⟨⟨by omega, b, c⟩, fun _ => by simp⟩
            | some op =>
              obtain ⟨hm, hlt⟩ := pick_get hp
              have hop : op = 9 ∨ op = 10 ∨ op = 11 ∨ op = 12 ∨ op = 13 ∨ op = 14 := by simpa [qDr] using hm
              have hl4 : lvl op = 4 := by rcases hop with rfl | rfl | rfl | rfl | rfl | rfl <;> rfl
              obtain ⟨k1, k2⟩ := ih 5 (j + 1) (by omega) (by omega) hlt
              refine ⟨qCE k1 fun e2 k a2 b2 c2 => ⟨?_, b2, by unfold bi2; omega, c, c2⟩, fun hf => qC1 k1 (k2 (by omega)) fun _ _ _ _ _ => by simp⟩
              have : shw (.bi op e e2) 4 = shw e 5 ++ qCr op :: shw e2 5 := by
                rw [qFz (by show 4 ≤ lvl op; omega)]
                unfold shwB
                rw [if_neg (by omega), hl4]
                rfl
              rw [this, List.length_append, List.length_cons]
              omega
        exact ⟨qCE g1 fun e k a b c => (hin e k a b c).1, fun hf => qC1 g1 (g2 (by omega)) fun e k a b c => (hin e k a b c).2 hf⟩
      · show qDP T 9 i (firstT T (rd T f 1) i) ∧ (_ → firstT T (rd T f 1) i ≠ .out)
        have hl : ∀ {t : Tk}, T[i]? = some t → i + 1 ≤ T.length := fun h => (List.getElem?_eq_some_iff.1 h).1
        unfold firstT
        split
        · rename_i ht; exact ⟨qD1 (hl ht) .null (by decide), fun _ => by simp⟩
        split
        · rename_i ht; exact ⟨qD1 (hl ht) (.bool 1 (.inr rfl)) (by decide), fun _ => by simp⟩
        split
        · rename_i ht; exact ⟨qD1 (hl ht) (.bool 0 (.inl rfl)) (by decide), fun _ => by simp⟩
        split
        · rename_i ht
          obtain ⟨g1, g2⟩ := ih 1 (i + 1) (by omega) (by omega) (hl ht)
          refine ⟨qCE g1 fun e k a b c => qDc b fun h2 => ⟨?_, h2, c⟩, fun hf => qC1 g1 (g2 (by omega)) fun e k _ _ _ => qDF fun _ => by simp⟩
          have hw := qEK e.op 9 (shwB e)
          rw [shw_one] at a
          show i + (qCf e.op 9 (shwB e)).length ≤ _
          omega
        split
        · rename_i ht
          refine ⟨qDc (hl ht) fun h2 => ?_, fun hf => qDF fun h2 => ?_⟩
          · obtain ⟨g1, g2⟩ := ih 1 (i + 1 + 1) (by omega) (by omega) h2
            refine qCE g1 fun e k a b c => qDc b fun h3 => ⟨?_, h3, .inr (.inr (.inr rfl)), c⟩
            rw [qFz (by show 9 ≤ lvl 18; decide)]
            show i + (lenW :: lpT :: (shw e 1 ++ [rpT])).length ≤ _
            rw [List.length_cons, List.length_cons, List.length_append]
            show i + ((shw e 1).length + 1 + 1 + 1) ≤ _
            omega
          · obtain ⟨g1, g2⟩ := ih 1 (i + 1 + 1) (by omega) (by omega) h2
            exact qC1 g1 (g2 (by omega)) fun e k _ _ _ => qDF fun _ => by simp
        split
        · rename_i ht
          refine ⟨qDc (hl ht) fun h2 => ?_, fun hf => qDF fun h2 => ?_⟩
          · obtain ⟨g1, _⟩ := ih 1 (i + 1 + 1) (by omega) (by omega) h2
            refine qCE g1 fun e k a b c => qDc b fun h3 => ?_
            obtain ⟨g3, _⟩ := ih 1 (k + 1) (by omega) (by omega) h3
            refine qCE g3 fun e2 k2 a2 b2 c2 => qDc b2 fun h4 => ⟨?_, h4, by unfold bi2; omega, c, c2⟩
            rw [qFz (by show 9 ≤ lvl 20; decide)]
            show i + (coaW :: lpT :: (shw e 1 ++ cmT :: (shw e2 1 ++ [rpT]))).length ≤ _
            rw [List.length_cons, List.length_cons, List.length_append, List.length_cons, List.length_append]
            show i + ((shw e 1).length + ((shw e2 1).length + 1 + 1) + 1 + 1) ≤ _
            omega
          · obtain ⟨g1, g2⟩ := ih 1 (i + 1 + 1) (by omega) (by omega) h2
            refine qC1 g1 (g2 (by omega)) fun e k a _ _ => qDF fun h3 => ?_
            obtain ⟨g3, g4⟩ := ih 1 (k + 1) (by omega) (by omega) h3
            exact qC1 g3 (g4 (by omega)) fun _ _ _ _ _ => qDF fun _ => by simp
        cases ht : T[i]? with
        | none => exact ⟨qEF hi, fun _ => qFn⟩
        | some t =>
          have hto := hok t (List.mem_of_getElem? ht)
          have hlt := hl ht
          cases hto with
          | name n hn => exact ⟨⟨Nat.le_refl _, hlt, hn⟩, fun _ => by simp⟩
          | word w hw => exact ⟨qEF hi, fun _ => qFn⟩
          | num n hn => exact ⟨qD1 hlt (.int n) hn, fun _ => by simp⟩
          | quote s h1 h2 => exact ⟨qD1 hlt (.text s h1 h2) (by show (0 : Int) ≤ 0; decide), fun _ => by simp⟩
          | hex b h1 h2 h3 => exact ⟨qD1 hlt (.real b h1 h2 h3) (by show (0 : Int) ≤ 0; decide), fun _ => by simp⟩
          | sign s hs => exact ⟨qEF hi, fun _ => qFn⟩
end Go.Proofs.YtlpnnnmdkglkcaaDoor

