/-
  chirographkeep.sameExpr tells that an expression is itself. No condition.
-/
import Derived.Test.YtlpnnnmdkglkcaaDoorZRdv
set_option linter.unusedSimpArgs false
set_option linter.unusedVariables false
namespace Go.Proofs.YtlpnnnmdkglkcaaDoor
open Go.RowKit

set_option maxHeartbeats 2000000 in
theorem qD3 (x : Ex) (ih : ∀ a ∈ x.args, PC Tryd.prog 25 [.ag a.cs, .ag a.cs] (bD true)) : PC Tryd.prog 25 [.ag x.cs, .ag x.cs] (bD true) := by
  have hl := x.args_len
  have hxl := x.cs_eq
  generalize x.cs = c at *
  subst hxl
  have hc : ((x.op : Int) != x.op || !(x.val.k == x.val.k && (x.val.n == x.val.n && ((x.val.b : Int) == x.val.b && (x.val.t.toList == x.val.t.toList && true)))) || !(x.nam.toList == x.nam.toList) || ((x.args.length : Nat) : Int) != x.args.length) = false := by simp
  refine qAS Tryd.func25 rfl (by kernel_rfl) mixed (by kernel_rfl) (qle (by kernel_rfl)) Tryd.results25 ?_
  repeat (first | (with_reducible first | apply qAr | apply qAq | apply qAp | apply qAj) | ((first | (with_reducible apply rp) | ((with_reducible apply rpG); eq_refl; exact qAu rfl; (focus repeat' (first | exact trivial | exact id | apply And.intro)); intro zg; have zh := zg; (try simp only [zs1, zs2, zs3, zs4] at zg))); first | ((with_reducible first | apply qAe | apply qAd); (conv => lhs; whnf)) | ((with_reducible first | apply qAU | apply qAg | apply qAi | apply qBa | apply qAB) <;> first | ((with_reducible apply tyOk); eq_refl) | eq_refl | exact id | decide) | ((with_reducible apply qAn); exact tyOk rfl; (iterate 3 eq_refl); exact qle rfl; eq_refl) | ((with_reducible apply qB6); eq_refl; eq_refl) | ((with_reducible apply qDB); eq_refl; eq_refl; exact tgOk rfl; eq_refl)) | ((with_reducible apply rp1); ((with_reducible apply qAv); eq_refl; eq_refl)))
  refine qAx rfl (fun hd => ?_) (fun hd => ?_)
  · exfalso
    simp at hd
  clear hd
  repeat (first | (with_reducible first | apply qAr | apply qAq | apply qAp | apply qAj | apply qAA | apply qAF) | ((with_reducible apply rp); first | ((with_reducible apply qAe); (conv => lhs; whnf)) | ((with_reducible apply qAg); exact tyOk rfl; eq_refl; eq_refl; decide; eq_refl) | ((with_reducible apply qAi); exact tyOk rfl; (iterate 4 eq_refl)) | ((with_reducible apply qAB); exact tyOk rfl; eq_refl; eq_refl)))
  refine qCh (fun m s => ∃ k, k ≤ x.args.length ∧ m = x.args.length - k ∧ s = ⟨[(2, .px 2 0), (3, .px 3 0), (36, .d (iD x.args.length)), (37, .d (iD k))],
    [(2, .var 53 [.d (iD x.op), .d (iD x.val.k), .d (iD x.val.n), .d (qD x.val.b), .d (strD x.val.t), .d (strD x.nam), .d (.sl 7 (x.args.map Ex.cs))]), (3, .var 53 [.d (iD x.op), .d (iD x.val.k), .d (iD x.val.n), .d (qD x.val.b), .d (strD x.val.t), .d (strD x.nam), .d (.sl 7 (x.args.map Ex.cs))])]⟩) _ _ ?_ ⟨0, by omega, rfl, rfl⟩ ?_
  · refine qA7 [] (by repeat' (first | exact qAX | (refine qAN rfl (by exact SubA.refl _) ?_))) (kpX rfl) rfl (insS rfl) (insX rfl)
  · rintro m s ⟨k, hk, rfl, rfl⟩
    repeat (first | (with_reducible first | apply qAr | apply qAq | apply qAp | apply qAj) | ((with_reducible apply rp); ((with_reducible apply qA0); eq_refl; eq_refl)))
    refine qAx rfl (fun hd => ?_) (fun hd => ?_)
    · have hlt : k < x.args.length := by simp at hd; omega
      clear hd
      obtain ⟨a, ha⟩ : ∃ a, x.args[k]? = some a := ⟨_, List.getElem?_eq_getElem hlt⟩
      have ha2 : (x.args.map Ex.cs)[k]? = some a.cs := by rw [List.getElem?_map, ha]; rfl
      have i1 := ih a (List.mem_of_getElem? ha)
      have hal := a.cs_eq
      generalize a.cs = ac at *
      subst hal
      repeat (first | (with_reducible first | apply qAr | apply qAq | apply qAp | apply qAj | apply qBD | apply qAA | apply qA4 | apply qAF) | ((with_reducible apply qBQ); (first | kernel_rfl | eq_refl)) | ((with_reducible first | apply rp | apply dr); first | ((with_reducible apply qAc); eq_refl; eq_refl; exact (i1); eq_refl) | ((with_reducible first | apply qAe | apply qAd); (conv => lhs; whnf)) | ((with_reducible first | apply qAg | apply qAi | apply qBc) <;> first | ((with_reducible apply tyOk); eq_refl) | eq_refl | decide) | ((with_reducible apply qAo); exact tyOk rfl; eq_refl; eq_refl; assumption; eq_refl) | ((with_reducible apply qAz); exact tyOk rfl; eq_refl; exact tyOk rfl; (iterate 4 eq_refl); (simp only [List.length_map, List.length_append, List.length_cons, List.length_nil] at *; omega)) | ((with_reducible apply qAV); eq_refl; eq_refl; omega; omega)) | ((with_reducible apply qBI); eq_refl; eq_refl))
      refine ⟨_, _, ?_, ?_, k + 1, by omega, rfl, rfl⟩
      · omega
      · refine qA7 [] (by repeat' (first | exact qAX | (refine qAN rfl (by exact SubA.refl _) ?_))) (kpX rfl) rfl (insS rfl) (insX rfl)
    · have hke : k = x.args.length := by simp at hd; omega
      clear hd
      subst hke
      repeat (first | (with_reducible first | apply qAr | apply qAq | apply qAp | apply qAj | apply qCb | apply qCd | apply qCc | apply qAK | apply qA9) | ((with_reducible apply rp); ((with_reducible apply qAd); (conv => lhs; whnf))))
      (with_reducible apply qA8); (focus (repeat' (first | (with_reducible apply qAJ) | (with_reducible apply qAD) | ((with_reducible apply qBb); eq_refl)))); eq_refl; refine SubD.of_eq ?_
      rfl
theorem qFg : ∀ x : Ex, PC Tryd.prog 25 [.ag x.cs, .ag x.cs] (bD true)
  | .lit v => qD3 (.lit v) fun a h => by cases h
  | .col n => qD3 (.col n) fun a h => by cases h
  | .un op a => qD3 (.un op a) fun b h => by
    have h : b = a := by simpa [Ex.args] using h
    rw [h]; exact qFg a
  | .bi op a b => qD3 (.bi op a b) fun c h => by
    have h : c = a ∨ c = b := by simpa [Ex.args] using h
    rcases h with h | h
    · rw [h]; exact qFg a
    · rw [h]; exact qFg b
end Go.Proofs.YtlpnnnmdkglkcaaDoor

