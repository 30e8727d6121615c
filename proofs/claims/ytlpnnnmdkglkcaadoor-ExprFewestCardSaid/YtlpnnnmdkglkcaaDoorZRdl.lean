/-
  The reader of package expr: a chain of operations of one level. No condition but the sizes.
-/
import Derived.Test.YtlpnnnmdkglkcaaDoorZRdr
set_option linter.unusedSimpArgs false
set_option linter.unusedVariables false
namespace Go.Proofs.YtlpnnnmdkglkcaaDoor
open Go.RowKit

abbrev exL (e : Ex) : List D := [iD e.op, iD e.val.k, iD e.val.n, qD e.val.b, strD e.val.t, strD e.nam, .sl 7 (e.args.map Ex.cs)]
abbrev exD (e : Ex) : D := .ag (exL e)
theorem qEn (e : Ex) : D.ag e.cs = exD e := by rw [Ex.cs_eq]
abbrev exB (e : Ex) : List A := [.d (iD e.op), .d (iD e.val.k), .d (iD e.val.n), .d (qD e.val.b), .d (strD e.val.t), .d (strD e.nam), .d (.sl 7 (e.args.map Ex.cs))]
theorem twoX_pc (op : Nat) (a b : Ex) : PC Tryd.prog 90 [iD op, exD a, exD b] (exD (.bi op a b)) := by
  have h := twoE_pc op a b
  rw [qEn, qEn, qEn] at h
  exact h
abbrev exZ : List A := [.d (iD 0), .d (iD 0), .d (iD 0), .d (qD 0), .d (strD .empty), .d (strD .empty), .d .nl]
def qBJ (g : FuncId) (T : List Tk) (next : Nat → Pr) : Prop := ∀ i x j, i ≤ T.length → next i = .ok x j → j ≤ T.length ∧ PX Tryd.prog g [.px 1000 0] (rdrB T i) [] (exD x) (rdrB T j) []
abbrev opsD (ops : List Nat) : D := .sl 1 (ops.map fun (o : Nat) => [iD (o : Int)])
theorem qFw {T : List Tk} {k op : Nat} (ht : T[k]? = some (qCr op)) : ∀ {ops : List Nat} {q : Nat}, (∀ p o, p < q → ops[p]? = some o → T[k]? ≠ some (qCr o)) → ops[q]? = some op → qCs T ops k = some op
  | o :: l, 0, _, h => by
    injection h with h
    subst h
    unfold qCs
    rw [if_pos ht]
  | o :: l, q + 1, hn, h => by
    unfold qCs
    rw [if_neg (hn 0 o (by omega) rfl)]
    exact qFw ht (q := q) (fun p o' hp ho => hn (p + 1) o' (by omega) ho) h
set_option maxHeartbeats 4000000 in
theorem qEJ (T : List Tk) (hT : T.length ≤ 1000) (g : FuncId) (next : Nat → Pr) (hn : qBJ g T next) (ops : List Nat) (hops : ∀ o ∈ ops, bi2 o ∧ o ≠ 20) (hl : ops.length ≤ 10) (i j : Nat) (x : Ex) (hi : i ≤ T.length) (h : qCl T next ops i = .ok x j) :
    j ≤ T.length ∧ PX Tryd.prog 73 [.px 1000 0, .fn (.func g) [.px 1000 0] [], .d (opsD ops)] (rdrB T i) [] (exD x) (rdrB T j) [] := by
  unfold qCl at h
  cases hf : next i with
  | bad p e => rw [hf] at h; cases h
  | out => rw [hf] at h; cases h
  | ok e0 k0 =>
    rw [hf] at h
    have h : chn T next ops (T.length + 1) e0 k0 = .ok x j := h
    obtain ⟨hk0, p0⟩ := hn i e0 k0 hi hf
    have hjl : ∀ (n : Nat) (e : Ex) (k : Nat), k ≤ T.length → chn T next ops n e k = .ok x j → j ≤ T.length := by
      intro n
      induction n with
      | zero => intro e k _ h; cases h
      | succ n ih =>
        intro e k hk h
        unfold chn at h
        cases hp : qCs T ops k with
        | none => rw [hp] at h; injection h with h1 h2; subst h2; exact hk
        | some op =>
          rw [hp] at h
          cases hq : next (k + 1) with
          | bad p e => simp only [hq] at h; cases h
          | out => simp only [hq] at h; cases h
          | ok e2 k2 =>
            simp only [hq] at h
            have hlt : k + 1 ≤ T.length := by
              rcases Nat.lt_or_ge k T.length with h1 | h1
              · exact h1
              · exfalso
                have : qCs T ops k = none := qC9 fun o _ => by rw [List.getElem?_eq_none h1]; simp
                rw [this] at hp
                cases hp
            exact ih _ _ (hn (k + 1) e2 k2 hlt hq).1 h
    refine ⟨hjl _ _ _ hk0 h, ?_⟩
    generalize T.length + 1 = n0 at h
    refine qAW Tryd.func73 rfl (by kernel_rfl) mixed (by kernel_rfl) (qle (by kernel_rfl)) Tryd.results73 rfl ?_
    repeat (first | ((first | (with_reducible apply rpGT) | (with_reducible apply drGT) | (with_reducible apply qAR) | (with_reducible apply qAQ)); eq_refl; (first | exact qAE rfl | exact qAu rfl | exact qAy rfl | exact qAw rfl); (first | eq_refl | assumption | decide); (focus repeat' (first | exact trivial | exact id | apply And.intro | (intro h; (first | exact h | (simp only [Bool.and_eq_true] at h; (first | exact h.1 | exact h.1.1 | exact h.1.1.1 | exact h.2)) | (rw [h]; rfl) | (rw [zh, h]; rfl) | simp_all)))); (first | ((refine qAa [] [] (ups := [(1000, .var 87 [.d (qAs T), .d (iD k0)])]) rfl (p0) rfl (kpX rfl) rfl (insX rfl) (insQ rfl) rfl rfl rfl rfl rfl (insX rfl) rfl rfl); (first | exact qAb _ | exact qAm _ _ | exact qAk _ _ _ | exact qAl _ _ _ _)) | ((first | ((with_reducible first | apply qAe | apply qAd); (conv => lhs; whnf)) | ((with_reducible first | apply qAh | apply qAf) <;> first | ((with_reducible apply tyOk); eq_refl) | eq_refl)); (first | exact qAb _ | exact qAm _ _ | exact qAk _ _ _ | exact qAl _ _ _ _)))) | (with_reducible first | apply qAr | apply qAq | apply qAp | apply qAj | apply qAA) | ((with_reducible apply rp); first | ((with_reducible apply qAe); (conv => lhs; whnf)) | ((with_reducible apply qAd); (conv => lhs; whnf))) | ((with_reducible apply rp1); ((with_reducible apply qAh); exact tyOk rfl; eq_refl)) | ((with_reducible apply rpN); ((with_reducible apply qAf); exact tyOk rfl; (iterate 5 eq_refl))) | ((with_reducible apply rpL); (refine qAa [] [] (ups := [(1000, .var 87 [.d (qAs T), .d (iD k0)])]) rfl (p0) rfl (kpX rfl) rfl (insX rfl) (insQ rfl) rfl rfl rfl rfl rfl (insX rfl) rfl rfl); exact qAb _))
    refine qCh (fun m s => ∃ n e k b, (b = true → k ≤ T.length ∧ chn T next ops n e k = .ok x j ∧ m = n + 1) ∧ (b = false → e = x ∧ k = j ∧ m = 0) ∧ s = ⟨[(0, .px 1000 0), (1, .fn (.func g) [.px 1000 0] []), (2, .d (opsD ops)), (6, .px 6 0), (7, .px 7 0), (8, .d (bD b))], [(1000, .var 87 [.d (qAs T), .d (iD k)]), (6, .var 53 exZ), (7, .var 53 (exB e))]⟩) _ _ ?_ ⟨n0, e0, k0, true, fun _ => ⟨hk0, h, rfl⟩, fun h => (by cases h), rfl⟩ ?_
    · refine qA7 [] (by repeat' (first | exact qAX | (refine qAN rfl (by exact SubA.refl _) ?_))) (kpX rfl) rfl (insS rfl) (insX rfl)
    · rintro m s ⟨n, e, k, b, hb1, hb2, rfl⟩
      cases b with
      | false =>
        obtain ⟨rfl, rfl, rfl⟩ := hb2 rfl
        repeat (first | ((first | (with_reducible apply rpGT) | (with_reducible apply drGT) | (with_reducible apply qAR) | (with_reducible apply qAQ)); eq_refl; (first | exact qAE rfl | exact qAu rfl | exact qAy rfl | exact qAw rfl); (first | eq_refl | assumption | decide); (focus repeat' (first | exact trivial | exact id | apply And.intro | (intro h; (first | exact h | (simp only [Bool.and_eq_true] at h; (first | exact h.1 | exact h.1.1 | exact h.1.1.1 | exact h.2)) | (rw [h]; rfl) | (rw [zh, h]; rfl) | simp_all)))); ((first | ((with_reducible apply qAe); (conv => lhs; whnf))); (first | exact qAb _ | exact qAm _ _ | exact qAk _ _ _ | exact qAl _ _ _ _))) | (with_reducible first | apply qAr | apply qAq | apply qAp | apply qAj) | ((with_reducible apply rp); ((with_reducible apply qAe); (conv => lhs; whnf))))
        refine qAx rfl (fun hd => absurd hd (by decide)) (fun _ => ?_)
        repeat (first | ((first | (with_reducible apply rpGT) | (with_reducible apply drGT) | (with_reducible apply qAR) | (with_reducible apply qAQ)); eq_refl; (first | exact qAE rfl | exact qAu rfl | exact qAy rfl | exact qAw rfl); (first | eq_refl | assumption | decide); (focus repeat' (first | exact trivial | exact id | apply And.intro | (intro h; (first | exact h | (simp only [Bool.and_eq_true] at h; (first | exact h.1 | exact h.1.1 | exact h.1.1.1 | exact h.2)) | (rw [h]; rfl) | (rw [zh, h]; rfl) | simp_all)))); ((first | ((with_reducible first | apply qAn | apply qAf) <;> first | ((with_reducible apply tyOk); eq_refl) | eq_refl | exact qle rfl)); (first | exact qAb _ | exact qAm _ _ | exact qAk _ _ _ | exact qAl _ _ _ _))) | (with_reducible first | apply qAr | apply qAq | apply qAp | apply qAj | apply qCb | apply qCd | apply qCc | apply qAK | apply qBi) | ((with_reducible apply rp); ((with_reducible apply qAn); exact tyOk rfl; (iterate 3 eq_refl); exact qle rfl; eq_refl)) | ((with_reducible apply rpN); ((with_reducible apply qAf); exact tyOk rfl; (iterate 5 eq_refl))))
        (with_reducible apply qA1 (l := [])); (focus (repeat' (first | (with_reducible apply qAJ) | (with_reducible apply qAD) | ((with_reducible apply qAZ); eq_refl; eq_refl; exact tyOk rfl; eq_refl; eq_refl)))); eq_refl; exact SubD.refl _; refine ⟨(by repeat' (first | exact qAX | (refine qAN rfl (by exact SubA.refl _) ?_))), (by repeat' (first | exact trivial | eq_refl | apply And.intro)), rfl, insS rfl, (by repeat' (first | exact trivial | exact qA5 rfl | apply And.intro))⟩
      | true =>
        obtain ⟨hkl, hc, rfl⟩ := hb1 rfl
        clear hb1 hb2
        repeat (first | ((first | (with_reducible apply rpGT) | (with_reducible apply drGT) | (with_reducible apply qAR) | (with_reducible apply qAQ)); eq_refl; (first | exact qAE rfl | exact qAu rfl | exact qAy rfl | exact qAw rfl); (first | eq_refl | assumption | decide); (focus repeat' (first | exact trivial | exact id | apply And.intro | (intro h; (first | exact h | (simp only [Bool.and_eq_true] at h; (first | exact h.1 | exact h.1.1 | exact h.1.1.1 | exact h.2)) | (rw [h]; rfl) | (rw [zh, h]; rfl) | simp_all)))); ((first | ((with_reducible apply qAe); (conv => lhs; whnf))); (first | exact qAb _ | exact qAm _ _ | exact qAk _ _ _ | exact qAl _ _ _ _))) | (with_reducible first | apply qAr | apply qAq | apply qAp | apply qAj) | ((with_reducible apply rp); ((with_reducible apply qAe); (conv => lhs; whnf))))
        refine qAx rfl (fun _ => ?_) (fun hd => absurd hd (by decide))
        repeat (first | ((first | (with_reducible apply rpGT) | (with_reducible apply drGT) | (with_reducible apply qAR) | (with_reducible apply qAQ)); eq_refl; (first | exact qAE rfl | exact qAu rfl | exact qAy rfl | exact qAw rfl); (first | eq_refl | assumption | decide); (focus repeat' (first | exact trivial | exact id | apply And.intro | (intro h; (first | exact h | (simp only [Bool.and_eq_true] at h; (first | exact h.1 | exact h.1.1 | exact h.1.1.1 | exact h.2)) | (rw [h]; rfl) | (rw [zh, h]; rfl) | simp_all)))); ((first | ((with_reducible first | apply qAe | apply qAd); (conv => lhs; whnf)) | ((with_reducible apply qAB); exact tyOk rfl; eq_refl; eq_refl)); (first | exact qAb _ | exact qAm _ _ | exact qAk _ _ _ | exact qAl _ _ _ _))) | (with_reducible first | apply qAr | apply qAq | apply qAp | apply qAj | apply qAA | apply qAF) | ((with_reducible apply rp); first | ((with_reducible apply qAe); (conv => lhs; whnf)) | ((with_reducible apply qAd); (conv => lhs; whnf)) | ((with_reducible apply qAB); exact tyOk rfl; eq_refl; eq_refl)))
        refine qCh (fun m s => ∃ q, q ≤ ops.length ∧ (∀ p o, p < q → ops[p]? = some o → T[k]? ≠ some (qCr o)) ∧ m = ops.length - q ∧ s = ⟨[(0, .px 1000 0), (1, .fn (.func g) [.px 1000 0] []), (2, .d (opsD ops)), (6, .px 6 0), (7, .px 7 0), (8, .d (bD false)), (14, .d (opsD ops)), (15, .d (iD ops.length)), (16, .d (iD q))], [(1000, .var 87 [.d (qAs T), .d (iD k)]), (6, .var 53 exZ), (7, .var 53 (exB e))]⟩) _ _ ?_ ⟨0, by omega, fun p o hp => by omega, rfl, rfl⟩ ?_
        · refine qA7 [] (by repeat' (first | exact qAX | (refine qAN rfl (by exact SubA.refl _) ?_))) (kpX rfl) rfl (insS rfl) (insX rfl)
        · rintro m s ⟨q, hq, hnone, rfl, rfl⟩
          repeat (first | ((first | (with_reducible apply rpGT) | (with_reducible apply drGT) | (with_reducible apply qAR) | (with_reducible apply qAQ)); eq_refl; (first | exact qAE rfl | exact qAu rfl | exact qAy rfl | exact qAw rfl); (first | eq_refl | assumption | decide); (focus repeat' (first | exact trivial | exact id | apply And.intro | (intro h; (first | exact h | (simp only [Bool.and_eq_true] at h; (first | exact h.1 | exact h.1.1 | exact h.1.1.1 | exact h.2)) | (rw [h]; rfl) | (rw [zh, h]; rfl) | simp_all)))); ((first | ((with_reducible apply qA0); eq_refl; eq_refl)); (first | exact qAb _ | exact qAm _ _ | exact qAk _ _ _ | exact qAl _ _ _ _))) | (with_reducible first | apply qAr | apply qAq | apply qAp | apply qAj) | ((with_reducible apply rp); ((with_reducible apply qA0); eq_refl; eq_refl)))
          refine qAx rfl (fun hd => ?_) (fun hd => ?_)
          · have hlt : q < ops.length := by simpa using hd
            clear hd
            obtain ⟨op, hop⟩ : ∃ op, ops[q]? = some op := ⟨_, List.getElem?_eq_getElem hlt⟩
            have hgo : (ops.map fun (o : Nat) => [iD (o : Int)])[q]? = some [iD (op : Int)] := by rw [List.getElem?_map, hop]; rfl
            obtain ⟨hb, h20⟩ := hops op (List.mem_of_getElem? hop)
            have mk := qER op hb h20
            by_cases hT2 : T[k]? = some (qCr op)
            · have t1 := qBO T hT k (qCr op) (qDv op hb h20) hT2
              have hkl2 : k + 1 ≤ T.length := (List.getElem?_eq_some_iff.1 hT2).1
              cases n with
              | zero => cases hc
              | succ n =>
                unfold chn at hc
                rw [qFw hT2 hnone hop] at hc
                cases hq2 : next (k + 1) with
                | bad p e => simp only [hq2] at hc; cases hc
                | out => simp only [hq2] at hc; cases hc
                | ok e2 k2 =>
                  simp only [hq2] at hc
                  have hc : chn T next ops n (.bi op e e2) k2 = .ok x j := hc
                  obtain ⟨hk2, p2⟩ := hn (k + 1) e2 k2 hkl2 hq2
                  have tw := twoX_pc op e e2
                  repeat (first | ((first | (with_reducible apply rpGT) | (with_reducible apply drGT) | (with_reducible apply qAR) | (with_reducible apply qAQ)); eq_refl; (first | exact qAE rfl | exact qAu rfl | exact qAy rfl | exact qAw rfl); (first | eq_refl | assumption | decide); (focus repeat' (first | exact trivial | exact id | apply And.intro | (intro h; (first | exact h | (simp only [Bool.and_eq_true] at h; (first | exact h.1 | exact h.1.1 | exact h.1.1.1 | exact h.2)) | (rw [h]; rfl) | (rw [zh, h]; rfl) | simp_all)))); (first | ((refine qAa [] [] (ups := [(1000, .var 87 [.d (qAs T), .d (iD (k + 1 : Nat))])]) rfl (t1) rfl (kpX rfl) rfl (insX rfl) (insQ rfl) rfl rfl rfl rfl rfl (insX rfl) rfl rfl); (first | exact qAb _ | exact qAm _ _ | exact qAk _ _ _ | exact qAl _ _ _ _)) | ((refine qAa [] [] (ups := [(1000, .var 87 [.d (qAs T), .d (iD k2)])]) rfl (p2) rfl (kpX rfl) rfl (insX rfl) (insQ rfl) rfl rfl rfl rfl rfl (insX rfl) rfl rfl); (first | exact qAb _ | exact qAm _ _ | exact qAk _ _ _ | exact qAl _ _ _ _)) | ((first | ((with_reducible apply qAc); eq_refl; eq_refl; exact (mk); eq_refl) | ((with_reducible apply qAH); (iterate 3 eq_refl); exact (tw)) | ((with_reducible first | apply qAe | apply qAd); (conv => lhs; whnf)) | ((with_reducible apply qBs); exact tyOk rfl; eq_refl; eq_refl; assumption; eq_refl) | ((with_reducible apply qAn); exact tyOk rfl; (iterate 3 eq_refl); exact qle rfl; eq_refl) | ((with_reducible apply qAz); exact tyOk rfl; eq_refl; exact tyOk rfl; (iterate 4 eq_refl); (simp only [List.length_map, List.length_append, List.length_cons, List.length_nil] at *; omega)) | ((with_reducible apply qAf); exact tyOk rfl; (iterate 5 eq_refl))); (first | exact qAb _ | exact qAm _ _ | exact qAk _ _ _ | exact qAl _ _ _ _)))) | (with_reducible first | apply qAr | apply qAq | apply qAp | apply qAj | apply qBD | apply qAA | apply qCb | apply qCd | apply qCc | apply qA4 | apply qAF) | ((with_reducible apply qD6); eq_refl) | ((with_reducible apply qBQ); (first | kernel_rfl | eq_refl)) | ((with_reducible first | apply rp | apply dr); first | ((with_reducible apply qAc); eq_refl; eq_refl; exact (mk); eq_refl) | ((with_reducible apply qAH); (iterate 3 eq_refl); exact (tw)) | ((with_reducible first | apply qAe | apply qAd); (conv => lhs; whnf)) | ((with_reducible apply qBs); exact tyOk rfl; eq_refl; eq_refl; assumption; eq_refl) | ((with_reducible apply qAn); exact tyOk rfl; (iterate 3 eq_refl); exact qle rfl; eq_refl) | ((with_reducible apply qAz); exact tyOk rfl; eq_refl; exact tyOk rfl; (iterate 4 eq_refl); (simp only [List.length_map, List.length_append, List.length_cons, List.length_nil] at *; omega))) | ((with_reducible apply drN); ((with_reducible apply qAf); exact tyOk rfl; (iterate 5 eq_refl))) | ((with_reducible first | apply rpL | apply drL); (refine qAa [] [] (ups := [(1000, .var 87 [.d (qAs T), .d (iD (k + 1 : Nat))])]) rfl (t1) rfl (kpX rfl) rfl (insX rfl) (insQ rfl) rfl rfl rfl rfl rfl (insX rfl) rfl rfl); exact qAb _) | ((with_reducible first | apply rpL | apply drL); (refine qAa [] [] (ups := [(1000, .var 87 [.d (qAs T), .d (iD k2)])]) rfl (p2) rfl (kpX rfl) rfl (insX rfl) (insQ rfl) rfl rfl rfl rfl rfl (insX rfl) rfl rfl); exact qAb _) | ((with_reducible apply qBK); eq_refl; eq_refl))
                  refine ⟨_, _, ?_, ?_, n, .bi op e e2, k2, true, fun _ => ⟨hk2, hc, rfl⟩, fun h => (by cases h), rfl⟩
                  · omega
                  · refine qA7 [] (by repeat' (first | exact qAX | (refine qAN rfl (by exact SubA.refl _) ?_))) (kpX rfl) rfl (insS rfl) (insX rfl)
            · have t1 := qBW T hT k hkl (qCr op) (qDv op hb h20) hT2
              repeat (first | ((first | (with_reducible apply rpGT) | (with_reducible apply drGT) | (with_reducible apply qAR) | (with_reducible apply qAQ)); eq_refl; (first | exact qAE rfl | exact qAu rfl | exact qAy rfl | exact qAw rfl); (first | eq_refl | assumption | decide); (focus repeat' (first | exact trivial | exact id | apply And.intro | (intro h; (first | exact h | (simp only [Bool.and_eq_true] at h; (first | exact h.1 | exact h.1.1 | exact h.1.1.1 | exact h.2)) | (rw [h]; rfl) | (rw [zh, h]; rfl) | simp_all)))); (first | ((refine qAa [] [] (ups := [(1000, .var 87 [.d (qAs T), .d (iD k)])]) rfl (t1) rfl (kpX rfl) rfl (insX rfl) (insQ rfl) rfl rfl rfl rfl rfl (insX rfl) rfl rfl); (first | exact qAb _ | exact qAm _ _ | exact qAk _ _ _ | exact qAl _ _ _ _)) | ((first | ((with_reducible apply qAc); eq_refl; eq_refl; exact (mk); eq_refl) | ((with_reducible first | apply qAe | apply qAd); (conv => lhs; whnf)) | ((with_reducible apply qBs); exact tyOk rfl; eq_refl; eq_refl; assumption; eq_refl) | ((with_reducible apply qAz); exact tyOk rfl; eq_refl; exact tyOk rfl; (iterate 4 eq_refl); (simp only [List.length_map, List.length_append, List.length_cons, List.length_nil] at *; omega)) | ((with_reducible apply qAV); eq_refl; eq_refl; omega; omega)); (first | exact qAb _ | exact qAm _ _ | exact qAk _ _ _ | exact qAl _ _ _ _)))) | (with_reducible first | apply qAr | apply qAq | apply qAp | apply qAj | apply qAA | apply qA4 | apply qAF) | ((with_reducible apply rp); first | ((with_reducible apply qAc); eq_refl; eq_refl; exact (mk); eq_refl) | ((with_reducible apply qAe); (conv => lhs; whnf)) | ((with_reducible apply qAd); (conv => lhs; whnf)) | ((with_reducible apply qBs); exact tyOk rfl; eq_refl; eq_refl; assumption; eq_refl) | ((with_reducible apply qAz); exact tyOk rfl; eq_refl; exact tyOk rfl; (iterate 4 eq_refl); (simp only [List.length_map, List.length_append, List.length_cons, List.length_nil] at *; omega)) | ((with_reducible apply qAV); eq_refl; eq_refl; omega; omega)) | ((with_reducible apply rpL); (refine qAa [] [] (ups := [(1000, .var 87 [.d (qAs T), .d (iD k)])]) rfl (t1) rfl (kpX rfl) rfl (insX rfl) (insQ rfl) rfl rfl rfl rfl rfl (insX rfl) rfl rfl); exact qAb _) | ((with_reducible apply qBI); eq_refl; eq_refl))
              refine ⟨_, _, ?_, ?_, q + 1, by omega, fun p o hp ho => ?_, rfl, rfl⟩
              · omega
              · refine qA7 [] (by repeat' (first | exact qAX | (refine qAN rfl (by exact SubA.refl _) ?_))) (kpX rfl) rfl (insS rfl) (insX rfl)
              · rcases Nat.lt_or_ge p q with h1 | h1
                · exact hnone p o h1 ho
                · have : p = q := by omega
                  subst this
                  rw [hop] at ho
                  injection ho with ho
                  subst ho
                  exact hT2
          · have hqe : q = ops.length := by simp at hd; omega
            clear hd
            subst hqe
            have hpn : qCs T ops k = none := qC9 fun o ho => by
              obtain ⟨p, hp⟩ := List.getElem?_of_mem ho
              exact hnone p o (List.getElem?_eq_some_iff.1 hp).1 hp
            cases n with
            | zero => cases hc
            | succ n =>
              unfold chn at hc
              rw [hpn] at hc
              injection hc with hc1 hc2
              subst hc1 hc2
              repeat (first | (with_reducible first | apply qAj | apply qCb | apply qCd | apply qCc | apply qA4))
              refine ⟨_, _, ?_, ?_, 0, e, k, false, fun h => (by cases h), fun _ => ⟨rfl, rfl, rfl⟩, rfl⟩
              · omega
              · refine qA7 [] (by repeat' (first | exact qAX | (refine qAN rfl (by exact SubA.refl _) ?_))) (kpX rfl) rfl (insS rfl) (insX rfl)
end Go.Proofs.YtlpnnnmdkglkcaaDoor

