/-
  chirograph/table: row, keys as contracts. No condition but that the drawer may be.
-/
import Derived.Test.YtpaccaojgbfjdaaDoorZTbF
import Derived.Test.YtpaccaojgbfjdaaDoorZPlAv
set_option linter.unusedSimpArgs false
set_option linter.unusedVariables false
namespace Go.Proofs.YtpaccaojgbfjdaaDoor
open Go.RowKit

theorem qBJ : ∀ d : List Ce, (d.flatMap Ce.cs).length = d.length * 2
  | [] => rfl
  | c :: d => by
    rw [List.flatMap_cons, List.length_append, qBJ d, List.length_cons]
    show 2 + d.length * 2 = (d.length + 1) * 2
    omega
theorem qFn : ∀ (d : List Ce) (k : Nat) (c : Ce), d[k]? = some c → ((d.flatMap Ce.cs).drop (k * 2)).take 2 = c.cs
  | c :: d, 0, e, h => by
    simp only [List.getElem?_cons_zero, Option.some.injEq] at h
    subst h
    rfl
  | c :: d, k + 1, e, h => by
    rw [List.getElem?_cons_succ] at h
    rw [List.flatMap_cons, show (k + 1) * 2 = c.cs.length + k * 2 by show (k + 1) * 2 = 2 + k * 2; omega, List.drop_length_add_append]
    exact qFn d k e h
theorem qC6 : ∀ l : List D, allD (l.map .d) = some l
  | [] => rfl
  | x :: l => by
    show (match allD (l.map A.d) with | some r => some (x :: r) | none => none) = _
    rw [qC6 l]
section
variable {P : Program} {dst : Option Nat} {ty : TypeId} {e : Operand → A} {β : Bx} {T T0 el : TypeId} {x y : Operand}
theorem qBr {t te : TyI} {len esz i : Nat} {er : Bool} {k : IntKind} {n : Int} {d : List Ce} {c : Ce} (ht : mkTy P T = some t) (hk : t.kind = .array len el esz er) (hte : mkTy P el = some te) (hr : te.row = true) (h2 : te.size = 2) (hx : e x = .d (.ag (d.flatMap Ce.cs))) (hy : e y = .d (.sc (.int k n))) (hn : n = (i : Nat)) (hd : d.length = len) (hc : d[i]? = some c) :
    Does P dst (.index T x y) ty e β (.d (.ag c.cs)) [] [] := by
  have hi := (List.getElem?_eq_some_iff.1 hc).1
  have h := qD4 (P := P) (dst := dst) (ty := ty) (e := e) (β := β) (x := x) (y := y) ht hk hte hr hx hy hn (by omega) (by rw [qBJ, h2, hd])
  rwa [h2, qFn d i c hc] at h
theorem qDh {t : TyI} {id j : Nat} {d : List Ce} {c : Ce} (ht : mkTy P T = some t) (hr : t.row = true) (h2 : t.size = 2) (hx : e x = .px id (j * 2)) (hl : look id β = some (.var T0 ((d.flatMap Ce.cs).map .d))) (hc : d[j]? = some c) : Does P dst (.load T x) ty e β (.d (.ag c.cs)) [] [id] := by
  have hj := (List.getElem?_eq_some_iff.1 hc).1
  refine qAl ht hr hx hl (by rw [List.length_map, qBJ, h2]; omega) ?_
  rw [h2, ← List.map_drop, ← List.map_take, qFn d j c hc]
  exact qC6 _
theorem qCa {t : TyI} {id : Nat} {d : List Ce} (ht : mkTy P T = some t) (hr : t.row = true) (h2 : t.size = 8) (hx : e x = .px id 0) (hl : look id β = some (.var T0 ((d.flatMap Ce.cs).map .d))) (hd : d.length = 4) : Does P dst (.load T x) ty e β (.d (.ag (d.flatMap Ce.cs))) [] [id] := by
  have hlen : (d.flatMap Ce.cs).length = 8 := by rw [qBJ, hd]
  refine qAl ht hr hx hl (by rw [List.length_map, hlen, h2]; omega) ?_
  rw [h2, List.drop_zero, List.take_of_length_le (by rw [List.length_map, hlen]; omega)]
  exact qC6 _
end
theorem qCP (r : List Vl) (hr : r.length ≤ 1000000) : PC Tryd.prog 41 [qBz r] (qBz r) := by
  refine qAs Tryd.func41 rfl (by kernel_rfl) mixed (by kernel_rfl) (qle (by kernel_rfl)) Tryd.results41 ?_
  repeat (first | (with_reducible first | apply qAj | apply qAh | apply qAi | apply qAg | apply qAu | apply qAy) | ((with_reducible apply rp); first | ((with_reducible apply qAd); (conv => lhs; whnf)) | ((with_reducible apply qAa); (conv => lhs; whnf))) | ((with_reducible apply rp1); ((with_reducible apply qA6); exact tyOk rfl; exact rfl; exact tyOk rfl; exact rfl; exact rfl; (focus repeat' (first | exact trivial | refine And.intro rfl (And.intro rfl ?_))); decide; decide; exact rfl)) | ((with_reducible apply rp2); ((with_reducible apply qBx); exact tyOk rfl; exact rfl; exact tyOk rfl; (iterate 3 exact rfl); decide; (first | (dsimp only; simp only [List.length_map, List.length_append, List.length_cons, List.length_nil] at *; omega) | (simp only [List.length_map, List.length_append, List.length_cons, List.length_nil] at *; omega)); (first | (dsimp only; simp only [List.length_map, List.length_append, List.length_cons, List.length_nil] at *; omega) | (simp only [List.length_map, List.length_append, List.length_cons, List.length_nil] at *; omega)); exact rfl)))
  (with_reducible apply qAz); (focus (repeat' (first | (with_reducible apply qAw) | (with_reducible apply qAr) | ((with_reducible apply qAB); exact rfl)))); exact rfl; refine SubD.of_eq ?_
  rfl
set_option maxHeartbeats 4000000 in
theorem keys_pc (cols : List Cl) (hk : ∃ n l, cols = ⟨n, 2, false⟩ :: l) (d : List Ce) (h : DrOk cols d) : PC Tryd.prog 44 [.ag (d.flatMap Ce.cs)] (iD 0) := by
  have h4 := h.len
  refine qAs Tryd.func44 rfl (by kernel_rfl) mixed (by kernel_rfl) (qle (by kernel_rfl)) Tryd.results44 ?_
  repeat (first | (with_reducible first | apply qAj | apply qAh | apply qAi | apply qAg | apply qAq) | ((with_reducible apply rp); first | (exact qCa (tyOk rfl) rfl rfl rfl rfl h4) | ((with_reducible apply qAd); (conv => lhs; whnf)) | ((with_reducible apply qAa); (conv => lhs; whnf))) | ((with_reducible apply rp1); ((with_reducible apply qAn); exact rfl; exact rfl)))
  refine qBn (fun m s => ∃ k, k ≤ 4 ∧ m = 4 - k ∧ s = ⟨[(1, .px 1 0), (7, .d (.ag (d.flatMap Ce.cs))), (8, .d (iD k))], [(1, .var 27 ((d.flatMap Ce.cs).map .d))]⟩) _ _ ?_ ⟨0, by omega, rfl, rfl⟩ ?_
  · refine qAx [] (by repeat' (first | exact qAI | (refine qAD rfl (by exact SubA.refl _) ?_))) (by repeat' (first | exact trivial | exact kb_d rfl | refine And.intro ?_ ?_)) rfl (by repeat' (first | exact trivial | exact qAH _ | exact qAp rfl | refine And.intro ?_ ?_)) (by repeat' (first | exact trivial | exact qAH _ | exact qAp rfl | refine And.intro ?_ ?_))
  · rintro m s ⟨k, hk4, rfl, rfl⟩
    repeat (first | (with_reducible first | apply qAj | apply qAh | apply qAi | apply qAg) | ((with_reducible apply rp); ((with_reducible apply qAU); exact rfl; exact rfl)))
    refine qAo rfl (fun hd => ?_) (fun hd => ?_)
    · have hlt : k < 4 := by simp at hd; omega
      clear hd
      obtain ⟨c, hc⟩ : ∃ c, d[k]? = some c := ⟨_, List.getElem?_eq_getElem (by omega)⟩
      have hco := h.ok c (List.mem_of_getElem? hc)
      repeat (first | (with_reducible first | apply qAj | apply qAh | apply qAi | apply qAg | apply qAq | apply qAm) | ((with_reducible apply rp); first | (exact qBr (d := d) (c := c) (tyOk rfl) rfl (tyOk rfl) rfl rfl rfl rfl rfl h4 hc) | (exact qCc (h := k) (tyOk rfl) rfl (by decide) rfl ⟨_, _, rfl, rfl⟩ (by omega)) | (exact qCE (tyOk rfl) rfl rfl) | ((with_reducible apply qAd); (conv => lhs; whnf)) | ((with_reducible apply qAa); (conv => lhs; whnf))) | ((with_reducible apply rp1); ((with_reducible apply qAk); exact tyOk rfl; exact rfl)) | ((with_reducible apply rpN); ((with_reducible apply qAb); exact tyOk rfl; (iterate 5 exact rfl))))
      refine qBn (fun m s => ∃ j, j ≤ k ∧ m = k - j ∧ s = ⟨[(1, .px 1 0), (4, .px 4 0), (7, .d (.ag (d.flatMap Ce.cs))), (8, .d (iD k)), (13, .sx 1 k 4), (14, .d (iD k)), (15, .d (iD j))], [(1, .var 27 ((d.flatMap Ce.cs).map .d)), (4, .var 26 [.d (bD c.full), .d (qBz c.row)])]⟩) _ _ ?_ ⟨0, by omega, rfl, rfl⟩ ?_
      · refine qAx [] (by repeat' (first | exact qAI | (refine qAD rfl (by exact SubA.refl _) ?_))) (by repeat' (first | exact trivial | exact rfl | exact kb_d rfl | refine And.intro ?_ ?_)) rfl (by repeat' (first | exact trivial | exact qAH _ | exact qAp rfl | exact qB6 rfl | refine And.intro ?_ ?_)) (by repeat' (first | exact trivial | exact qAH _ | exact qAp rfl | exact qB6 rfl | refine And.intro ?_ ?_))
      · rintro m s ⟨j, hj, rfl, rfl⟩
        repeat (first | (with_reducible first | apply qAj | apply qAh | apply qAi | apply qAg) | ((with_reducible apply rp); ((with_reducible apply qAU); exact rfl; exact rfl)))
        refine qAo rfl (fun hd => ?_) (fun hd => ?_)
        · have hjk : j < k := by simp at hd; omega
          clear hd
          obtain ⟨b, hb⟩ : ∃ b, d[j]? = some b := ⟨_, List.getElem?_eq_getElem (by omega)⟩
          have hbo := h.ok b (List.mem_of_getElem? hb)
          have hne : b.full = true → c.full = true → keyN b.row ≠ keyN c.row := by
            obtain ⟨l1, e1⟩ := List.getElem?_eq_some_iff.1 hb
            obtain ⟨l2, e2⟩ := List.getElem?_eq_some_iff.1 hc
            have := List.pairwise_iff_getElem.1 h.keys j k l1 l2 hjk
            rw [e1, e2] at this
            exact this
          have hcase : (c.full = false ∨ b.full = false) ∨ (∃ kc lc kb lb, c = ⟨true, numV kc :: lc⟩ ∧ b = ⟨true, numV kb :: lb⟩ ∧ kb ≠ kc) := by
            by_cases hcf : c.full = true
            · by_cases hbf : b.full = true
              · right
                obtain ⟨kc, lc, ec⟩ := qDx (hco.fit hcf) hk
                obtain ⟨kb, lb, eb⟩ := qDx (hbo.fit hbf) hk
                have hn := hne hbf hcf
                refine ⟨kc, lc, kb, lb, ?_, ?_, ?_⟩
                · cases c; simp_all
                · cases b; simp_all
                · rw [ec, eb] at hn; exact hn
              · exact .inl (.inr (eq_false_of_ne_true hbf))
            · exact .inl (.inl (eq_false_of_ne_true hcf))
          rcases hcase with (hf | hf) | ⟨kc, lc, kb, lb, ec, eb, hkk⟩
          · obtain ⟨cf, cr⟩ := c
            dsimp only at hf
            subst hf
            have hff : (({ full := false, row := cr } : Ce).full && b.full) = false := rfl
            repeat (first | (with_reducible first | apply qAj | apply qAh | apply qAi | apply qAg | apply qA5 | apply qAq | apply qAm) | ((with_reducible apply qBh); (first | kernel_rfl | exact rfl)) | ((first | (with_reducible first | apply rp | apply dr) | ((with_reducible apply drG); exact rfl; exact qAZ rfl; (focus repeat' (first | exact trivial | exact fun h => h | refine And.intro ?_ ?_)); intro hgd; have hgd0 := hgd; (try simp only [decide_eq_true_eq, Bool.and_eq_true, Bool.not_eq_true', beq_iff_eq] at hgd))); first | (exact qBO (i := j) (tyOk rfl) rfl (tyOk rfl) rfl rfl rfl (by omega) rfl) | (exact qDh (j := j) (d := d) (c := b) (tyOk rfl) rfl rfl rfl rfl hb) | ((with_reducible apply qAd); (conv => lhs; whnf)) | ((with_reducible first | apply qAQ | apply qAc | apply qAe) <;> first | ((with_reducible apply tyOk); exact rfl) | exact rfl | exact fun h => h | decide) | ((with_reducible apply qCd); exact rfl; (first | assumption | decide); (conv => lhs; whnf))) | ((with_reducible apply rp1); ((with_reducible apply qAk); exact tyOk rfl; exact rfl)) | ((with_reducible apply rpN); ((with_reducible apply qAb); exact tyOk rfl; (iterate 5 exact rfl))) | ((first | (with_reducible apply rpGF) | (with_reducible apply drGF)); exact rfl; exact qAZ rfl; (first | assumption | decide | exact rfl); (focus repeat' (first | exact trivial | exact fun h => h | refine And.intro ?_ ?_))))
            refine qAo rfl (fun hd => absurd hd (by decide)) (fun _ => ?_)
            repeat (first | (with_reducible first | apply qAh | apply qAi | apply qAg | apply qAF | apply qAm) | ((with_reducible apply rp); first | ((with_reducible apply qAd); (conv => lhs; whnf)) | ((with_reducible apply qAJ); exact rfl; exact rfl; omega; omega)))
            refine ⟨_, _, ?_, ?_, j + 1, by omega, rfl, rfl⟩
            · omega
            · refine qAx [] (by repeat' (first | exact qAI | (refine qAD rfl (by exact SubA.refl _) ?_))) (by repeat' (first | exact trivial | exact rfl | exact kb_d rfl | refine And.intro ?_ ?_)) rfl (by repeat' (first | exact trivial | exact qAH _ | exact qAp rfl | exact qB6 rfl | refine And.intro ?_ ?_)) (by repeat' (first | exact trivial | exact qAH _ | exact qAp rfl | exact qB6 rfl | refine And.intro ?_ ?_))
          · obtain ⟨cf, cr⟩ := c
            obtain ⟨bf, br⟩ := b
            dsimp only at hf
            subst hf
            have hff : (cf && false) = false := by cases cf <;> rfl
            repeat (first | (with_reducible first | apply qAj | apply qAh | apply qAi | apply qAg | apply qA5 | apply qAq | apply qAm) | ((with_reducible apply qBh); (first | kernel_rfl | exact rfl)) | ((first | (with_reducible first | apply rp | apply dr) | ((with_reducible apply drG); exact rfl; exact qAZ rfl; (focus repeat' (first | exact trivial | exact fun h => h | refine And.intro ?_ ?_)); intro hgd; have hgd0 := hgd; (try simp only [decide_eq_true_eq, Bool.and_eq_true, Bool.not_eq_true', beq_iff_eq] at hgd))); first | (exact qBO (i := j) (tyOk rfl) rfl (tyOk rfl) rfl rfl rfl (by omega) rfl) | (exact qDh (j := j) (d := d) (c := ⟨false, br⟩) (tyOk rfl) rfl rfl rfl rfl hb) | ((with_reducible apply qAd); (conv => lhs; whnf)) | ((with_reducible first | apply qAQ | apply qAc | apply qAe) <;> first | ((with_reducible apply tyOk); exact rfl) | exact rfl | exact fun h => h | decide) | ((with_reducible apply qCd); exact rfl; (first | assumption | decide); (conv => lhs; whnf))) | ((with_reducible apply rp1); ((with_reducible apply qAk); exact tyOk rfl; exact rfl)) | ((with_reducible apply rpN); ((with_reducible apply qAb); exact tyOk rfl; (iterate 5 exact rfl))) | ((first | (with_reducible apply rpGF) | (with_reducible apply drGF)); exact rfl; exact qAZ rfl; (first | assumption | decide | exact rfl); (focus repeat' (first | exact trivial | exact fun h => h | refine And.intro ?_ ?_))))
            refine qAo rfl (fun hd => absurd hd (by decide)) (fun _ => ?_)
            repeat (first | (with_reducible first | apply qAh | apply qAi | apply qAg | apply qAF | apply qAm) | ((with_reducible apply rp); first | ((with_reducible apply qAd); (conv => lhs; whnf)) | ((with_reducible apply qAJ); exact rfl; exact rfl; omega; omega)))
            refine ⟨_, _, ?_, ?_, j + 1, by omega, rfl, rfl⟩
            · omega
            · refine qAx [] (by repeat' (first | exact qAI | (refine qAD rfl (by exact SubA.refl _) ?_))) (by repeat' (first | exact trivial | exact rfl | exact kb_d rfl | refine And.intro ?_ ?_)) rfl (by repeat' (first | exact trivial | exact qAH _ | exact qAp rfl | exact qB6 rfl | refine And.intro ?_ ?_)) (by repeat' (first | exact trivial | exact qAH _ | exact qAp rfl | exact qB6 rfl | refine And.intro ?_ ?_))
          · subst ec eb
            have hgc : ((numV kc :: lc).map Vl.cs)[0]? = some [iD 2, iD kc, qD 0, strD .empty] := rfl
            have hgb : ((numV kb :: lb).map Vl.cs)[0]? = some [iD 2, iD kb, qD 0, strD .empty] := rfl
            repeat (first | (with_reducible first | apply qAj | apply qAh | apply qAi | apply qAg | apply qA5 | apply qAq | apply qAm) | ((with_reducible apply qBh); (first | kernel_rfl | exact rfl)) | ((first | (with_reducible first | apply rp | apply dr) | ((with_reducible apply drG); exact rfl; exact qAZ rfl; (focus repeat' (first | exact trivial | exact fun h => h | refine And.intro ?_ ?_)); intro hgd; have hgd0 := hgd; (try simp only [decide_eq_true_eq, Bool.and_eq_true, Bool.not_eq_true', beq_iff_eq] at hgd))); first | (exact qBO (i := j) (tyOk rfl) rfl (tyOk rfl) rfl rfl rfl (by omega) rfl) | (exact qDh (j := j) (d := d) (c := ⟨true, numV kb :: lb⟩) (tyOk rfl) rfl rfl rfl rfl hb) | ((with_reducible apply qAd); (conv => lhs; whnf)) | ((with_reducible first | apply qAQ | apply qAc | apply qAe | apply qCs) <;> first | ((with_reducible apply tyOk); exact rfl) | ((with_reducible apply tgOk); exact rfl) | exact rfl | exact fun h => h | decide) | ((with_reducible apply qAG); exact tyOk rfl; exact rfl; exact rfl; assumption; exact rfl) | ((with_reducible apply qAM); exact tyOk rfl; exact rfl; exact tyOk rfl; (iterate 4 exact rfl); (dsimp only; simp only [List.length_map, List.length_append, List.length_cons, List.length_nil] at *; omega))) | ((with_reducible apply rp1); ((with_reducible apply qAk); exact tyOk rfl; exact rfl)) | ((with_reducible apply rpN); ((with_reducible apply qAb); exact tyOk rfl; (iterate 5 exact rfl))))
            refine qAo rfl (fun hd => ?_) (fun _ => ?_)
            · exfalso
              simp [hkk] at hd
            repeat (first | (with_reducible first | apply qAh | apply qAi | apply qAg | apply qAF | apply qAm) | ((with_reducible apply rp); first | ((with_reducible apply qAd); (conv => lhs; whnf)) | ((with_reducible apply qAJ); exact rfl; exact rfl; omega; omega)))
            refine ⟨_, _, ?_, ?_, j + 1, by omega, rfl, rfl⟩
            · omega
            · refine qAx [] (by repeat' (first | exact qAI | (refine qAD rfl (by exact SubA.refl _) ?_))) (by repeat' (first | exact trivial | exact rfl | exact kb_d rfl | refine And.intro ?_ ?_)) rfl (by repeat' (first | exact trivial | exact qAH _ | exact qAp rfl | exact qB6 rfl | refine And.intro ?_ ?_)) (by repeat' (first | exact trivial | exact qAH _ | exact qAp rfl | exact qB6 rfl | refine And.intro ?_ ?_))
        · have hke : j = k := by simp at hd; omega
          clear hd
          subst hke
          repeat (first | (with_reducible first | apply qAh | apply qAi | apply qAg | apply qBd | apply qBa | apply qBc | apply qAF) | ((with_reducible apply rp); first | ((with_reducible apply qAd); (conv => lhs; whnf)) | ((with_reducible apply qAJ); exact rfl; exact rfl; omega; omega)))
          refine ⟨_, _, ?_, ?_, j + 1, by omega, rfl, rfl⟩
          · omega
          · refine qAx [] (by repeat' (first | exact qAI | (refine qAD rfl (by exact SubA.refl _) ?_))) (by repeat' (first | exact trivial | exact kb_d rfl | refine And.intro ?_ ?_)) rfl (by repeat' (first | exact trivial | exact qAH _ | exact qAp rfl | refine And.intro ?_ ?_)) (by repeat' (first | exact trivial | exact qAH _ | exact qAp rfl | refine And.intro ?_ ?_))
    · have hke : k = 4 := by simp at hd; omega
      clear hd
      subst hke
      repeat (first | (with_reducible first | apply qAj | apply qAh | apply qAi | apply qAg | apply qBd | apply qBa | apply qBc | apply qAu | apply qAy) | ((with_reducible apply rp); ((with_reducible apply qAa); (conv => lhs; whnf))))
      (with_reducible apply qAz); (focus (repeat' (first | (with_reducible apply qAw) | (with_reducible apply qAr) | ((with_reducible apply qAB); exact rfl)))); exact rfl; refine SubD.of_eq ?_
      rfl
end Go.Proofs.YtpaccaojgbfjdaaDoor

